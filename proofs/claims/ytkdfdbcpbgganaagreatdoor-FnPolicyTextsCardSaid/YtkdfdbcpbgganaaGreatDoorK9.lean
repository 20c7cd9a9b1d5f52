/- Parts of a proof, one after another: DrawPt5. No condition. -/
import Derived.Test.YtkdfdbcpbgganaaGreatDoorK3
import Derived.Test.YtkdfdbcpbgganaaGreatDoorK7
import Derived.Test.YtkdfdbcpbgganaaGreatDoorK8
import Derived.Deep.RegionLaw
/- Draws of a basis and a policy. -/
section
namespace Go.Proofs.YtkdfdbcpbgganaaGreatDoor
open Go.RowKit Go.BigFrame

theorem BasT.of_res {w : World} {B n c : Nat} {A : Option Addr} {b : Bas} (h : Res B w 2 1 A n c (intRows b.lives)) (hl : b.lives.length ≤ 1048576) (hf : ∀ x ∈ b.lives, In64 x) (h1 : In64 b.first) (h2 : In64 b.rate) : BasT w A n c b := by
  have hn : b.lives.length = n := by have := h.len; rwa [intRows_length] at this
  have hc : n ≤ c := by
    rcases h.own.2 with ⟨h1, h2⟩ | ⟨g, c, cur, e, _, _, hnc, _⟩
    · simp only [Value.slice.injEq] at h1; omega
    · simp only [Value.slice.injEq] at e; omega
  exact ⟨⟨hn, by omega, h.rd, hf⟩, hc, h1, h2⟩
/-- a drawn policy: small numbers -/
def PolSmall (p : Policy) : Prop := (-2000000000 ≤ p.kind ∧ p.kind ≤ 2000000000) ∧ (-2000000000 ≤ p.age ∧ p.age ≤ 2000000000) ∧ (-2000000000 ≤ p.years ∧ p.years ≤ 2000000000) ∧ (-2000000000 ≤ p.sum ∧ p.sum ≤ 2000000000) ∧ (-2000000000 ≤ p.load ∧ p.load ≤ 2000000000)
theorem PolSmall.fits {p : Policy} (h : PolSmall p) : p.fits := by
  unfold PolSmall at h
  unfold Policy.fits In64
  omega
/-- the boxes of l10Draw (and of all that draws a basis and a policy) -/
structure E10 (K : Code) (g : Nat) (w W : World) (B Gt Gp Gb : Nat) (f : Int) (A : Option Addr) (n c : Nat) (r : Int) (p : Policy) : Prop where
  t : Blk W Gt 26 #[.int .i64 f, .slice A n c]
  p : Blk W Gp 42 #[.int .i64 p.kind, .int .i64 p.age, .int .i64 p.years, .int .i64 p.sum, .int .i64 p.load]
  b : Blk W Gb 40 #[.int .i64 f, .slice A n c, .int .i64 r]
  e : IntsBy B W A n c 0 1000001
  zb : Blk W w.heap.size 40 #[.int .i64 0, .slice none 0 0, .int .i64 0]
  zp : Blk W (w.heap.size + 1) 42 #[.int .i64 0, .int .i64 0, .int .i64 0, .int .i64 0, .int .i64 0]
  nx : Nx K g w W
  gw : g < w.heap.size
  wB : w.heap.size + 2 ≤ B
  Bt : B ≤ Gt
  tp : Gt < Gp
  pb : Gp < Gb
  aG : ∀ a, A = some ⟨a, 0, none⟩ → a ≠ Gp
namespace E10
variable {K : Code} {g : Nat} {w W W' : World} {B Gt Gp Gb : Nat} {f : Int} {A : Option Addr} {n c : Nat} {r : Int} {p : Policy}
theorem nxx (h : E10 K g w W B Gt Gp Gb f A n c r p) (hN : Nx K g W W') : E10 K g w W' B Gt Gp Gb f A n c r p := by
  have h1 := h.gw; have h2 := h.wB; have h3 := h.Bt; have h4 := h.tp; have h5 := h.pb
  exact { h with t := h.t.nx hN (by omega), p := h.p.nx hN (by omega), b := h.b.nx hN (by omega), e := h.e.nx hN (by omega), zb := h.zb.nx hN (by omega), zp := h.zp.nx hN (by omega), nx := h.nx.trans hN }
theorem past (h : E10 K g w W B Gt Gp Gb f A n c r p) (hb : Below W.heap.size W W') : E10 K g w W' B Gt Gp Gb f A n c r p :=
  { h with t := h.t.below' hb, p := h.p.below' hb, b := h.b.below' hb, e := h.e.past hb, zb := h.zb.below' hb, zp := h.zp.below' hb, nx := h.nx.past hb }
theorem put (h : E10 K g w W B Gt Gp Gb f A n c r p) (i : Nat) (v : Value) (q : Policy)
    (hq : (#[.int .i64 p.kind, .int .i64 p.age, .int .i64 p.years, .int .i64 p.sum, .int .i64 p.load] : Array Value).setIfInBounds i v = #[.int .i64 q.kind, .int .i64 q.age, .int .i64 q.years, .int .i64 q.sum, .int .i64 q.load]) :
    E10 K g w (W.setCell ⟨Gp, i, none⟩ v) B Gt Gp Gb f A n c r q := by
  have h1 := h.gw; have h2 := h.wB; have h3 := h.Bt; have h4 := h.tp; have h5 := h.pb
  have hp := h.p.set_ i v
  rw [hq] at hp
  refine { h with t := h.t.far (by show Gt ≠ Gp; omega) v, p := hp, b := h.b.far (by show Gb ≠ Gp; omega) v, e := ?_, zb := h.zb.far (by show w.heap.size ≠ Gp; omega) v, zp := h.zp.far (by show w.heap.size + 1 ≠ Gp; omega) v, nx := h.nx.kept h.gw (Nat.le_refl _) ((Below.refl _ _).setCell (p := ⟨Gp, i, none⟩) (by show w.heap.size ≤ Gp; omega) v) }
  obtain ⟨xs, hR, hf⟩ := h.e
  exact ⟨xs, hR.keep fun a ha => Below.heap_setCell _ _ _ _ (h.aG a ha), hf⟩
theorem basT (h : E10 K g w W B Gt Gp Gb f A n c r p) (hf : In64 f) (hr : In64 r) (hn : n ≤ 1048576) : ∃ xs : List Int, xs.length = n ∧ BasT W A n c ⟨f, xs, r⟩ ∧ (∀ x ∈ xs, 0 ≤ x ∧ x ≤ 1000001) := by
  obtain ⟨xs, hRx, hfx⟩ := h.e
  have hxl : xs.length = n := by have := hRx.len; simpa [intRows] using this
  exact ⟨xs, hxl, BasT.of_res hRx (by show xs.length ≤ 1048576; omega) (fun x hx => by have := hfx x hx; show In64 x; unfold In64; omega) hf hr, hfx⟩
theorem out8 (h : E10 K g w W B Gt Gp Gb f A n c r p) : Blk ((((((((((W).setCell ⟨w.heap.size, 0, none⟩ (.int .i64 f)).setCell ⟨w.heap.size, 1, none⟩ (.slice A n c)).setCell ⟨w.heap.size, 2, none⟩ (.int .i64 r)).setCell ⟨w.heap.size + 1, 0, none⟩ (.int .i64 p.kind)).setCell ⟨w.heap.size + 1, 1, none⟩ (.int .i64 p.age)).setCell ⟨w.heap.size + 1, 2, none⟩ (.int .i64 p.years)).setCell ⟨w.heap.size + 1, 3, none⟩ (.int .i64 p.sum)).setCell ⟨w.heap.size + 1, 4, none⟩ (.int .i64 p.load)).drew) w.heap.size 40 #[.int .i64 f, .slice A n c, .int .i64 r] ∧ Blk ((((((((((W).setCell ⟨w.heap.size, 0, none⟩ (.int .i64 f)).setCell ⟨w.heap.size, 1, none⟩ (.slice A n c)).setCell ⟨w.heap.size, 2, none⟩ (.int .i64 r)).setCell ⟨w.heap.size + 1, 0, none⟩ (.int .i64 p.kind)).setCell ⟨w.heap.size + 1, 1, none⟩ (.int .i64 p.age)).setCell ⟨w.heap.size + 1, 2, none⟩ (.int .i64 p.years)).setCell ⟨w.heap.size + 1, 3, none⟩ (.int .i64 p.sum)).setCell ⟨w.heap.size + 1, 4, none⟩ (.int .i64 p.load)).drew) (w.heap.size + 1) 42 #[.int .i64 p.kind, .int .i64 p.age, .int .i64 p.years, .int .i64 p.sum, .int .i64 p.load] ∧ Nx K g w ((((((((((W).setCell ⟨w.heap.size, 0, none⟩ (.int .i64 f)).setCell ⟨w.heap.size, 1, none⟩ (.slice A n c)).setCell ⟨w.heap.size, 2, none⟩ (.int .i64 r)).setCell ⟨w.heap.size + 1, 0, none⟩ (.int .i64 p.kind)).setCell ⟨w.heap.size + 1, 1, none⟩ (.int .i64 p.age)).setCell ⟨w.heap.size + 1, 2, none⟩ (.int .i64 p.years)).setCell ⟨w.heap.size + 1, 3, none⟩ (.int .i64 p.sum)).setCell ⟨w.heap.size + 1, 4, none⟩ (.int .i64 p.load)).drew) ∧ IntsBy (w.heap.size + 2) ((((((((((W).setCell ⟨w.heap.size, 0, none⟩ (.int .i64 f)).setCell ⟨w.heap.size, 1, none⟩ (.slice A n c)).setCell ⟨w.heap.size, 2, none⟩ (.int .i64 r)).setCell ⟨w.heap.size + 1, 0, none⟩ (.int .i64 p.kind)).setCell ⟨w.heap.size + 1, 1, none⟩ (.int .i64 p.age)).setCell ⟨w.heap.size + 1, 2, none⟩ (.int .i64 p.years)).setCell ⟨w.heap.size + 1, 3, none⟩ (.int .i64 p.sum)).setCell ⟨w.heap.size + 1, 4, none⟩ (.int .i64 p.load)).drew) A n c 0 1000001 := by
  have h1 := h.gw; have h2 := h.wB
  have a1 := (((h.zb).set_ 0 (.int .i64 f)).set_ 1 (.slice A n c)).set_ 2 (.int .i64 r)
  have a2 := (((((a1).far (p := ⟨w.heap.size + 1, 0, none⟩) (by show w.heap.size ≠ w.heap.size + 1; omega) (.int .i64 p.kind)).far (p := ⟨w.heap.size + 1, 1, none⟩) (by show w.heap.size ≠ w.heap.size + 1; omega) (.int .i64 p.age)).far (p := ⟨w.heap.size + 1, 2, none⟩) (by show w.heap.size ≠ w.heap.size + 1; omega) (.int .i64 p.years)).far (p := ⟨w.heap.size + 1, 3, none⟩) (by show w.heap.size ≠ w.heap.size + 1; omega) (.int .i64 p.sum)).far (p := ⟨w.heap.size + 1, 4, none⟩) (by show w.heap.size ≠ w.heap.size + 1; omega) (.int .i64 p.load)
  have b1 := (((h.zp).far (p := ⟨w.heap.size, 0, none⟩) (by show w.heap.size + 1 ≠ w.heap.size; omega) (.int .i64 f)).far (p := ⟨w.heap.size, 1, none⟩) (by show w.heap.size + 1 ≠ w.heap.size; omega) (.slice A n c)).far (p := ⟨w.heap.size, 2, none⟩) (by show w.heap.size + 1 ≠ w.heap.size; omega) (.int .i64 r)
  have b2 := (((((b1).set_ 0 (.int .i64 p.kind)).set_ 1 (.int .i64 p.age)).set_ 2 (.int .i64 p.years)).set_ 3 (.int .i64 p.sum)).set_ 4 (.int .i64 p.load)
  refine ⟨Blk.drew (by simpa using a2), Blk.drew (by simpa using b2), (h.nx.kept h.gw (Nat.le_refl _) (((((((((Below.refl _ _).setCell (p := ⟨w.heap.size, 0, none⟩) (Nat.le_refl _) (.int .i64 f)).setCell (p := ⟨w.heap.size, 1, none⟩) (Nat.le_refl _) (.slice A n c)).setCell (p := ⟨w.heap.size, 2, none⟩) (Nat.le_refl _) (.int .i64 r)).setCell (p := ⟨w.heap.size + 1, 0, none⟩) (Nat.le_succ _) (.int .i64 p.kind)).setCell (p := ⟨w.heap.size + 1, 1, none⟩) (Nat.le_succ _) (.int .i64 p.age)).setCell (p := ⟨w.heap.size + 1, 2, none⟩) (Nat.le_succ _) (.int .i64 p.years)).setCell (p := ⟨w.heap.size + 1, 3, none⟩) (Nat.le_succ _) (.int .i64 p.sum)).setCell (p := ⟨w.heap.size + 1, 4, none⟩) (Nat.le_succ _) (.int .i64 p.load))).drew, ?_⟩
  obtain ⟨xs, hRx, hfx⟩ := h.e
  refine ⟨xs, ((hRx.keep fun a ha => ?_).more (by omega)).drew, hfx⟩
  have := (hRx.lt ha).1
  rw [Below.heap_setCell _ _ _ _ (by show a ≠ w.heap.size + 1; omega), Below.heap_setCell _ _ _ _ (by show a ≠ w.heap.size + 1; omega), Below.heap_setCell _ _ _ _ (by show a ≠ w.heap.size + 1; omega), Below.heap_setCell _ _ _ _ (by show a ≠ w.heap.size + 1; omega), Below.heap_setCell _ _ _ _ (by show a ≠ w.heap.size + 1; omega), Below.heap_setCell _ _ _ _ (by show a ≠ w.heap.size; omega), Below.heap_setCell _ _ _ _ (by show a ≠ w.heap.size; omega), Below.heap_setCell _ _ _ _ (by show a ≠ w.heap.size; omega)]
end E10

set_option maxRecDepth 100000 in
set_option maxHeartbeats 8000000 in
theorem spec_l10Draw_any (K : Code) (hK : K.Ok) (g : Nat) (w0 : World) (w : World) (hT : Nx K g w0 w) :
    Calls Tryz.prog 53 #[.pointer (some ⟨g, 0, none⟩)] w fun e w' => ∃ (b : Bas) (A' : Option Addr) (n' c' : Nat) (p : Policy), e = .returned (.tuple #[.agg #[.int .i64 b.first, .slice A' n' c', .int .i64 b.rate], .agg p.row.toArray]) ∧ Res w0.heap.size w' 2 1 A' n' c' (intRows b.lives) ∧ (1 ≤ n' ∧ n' ≤ 30) ∧ (∀ x ∈ b.lives, 0 ≤ x ∧ x ≤ 1000001) ∧ (-1 ≤ b.first ∧ b.first ≤ 101) ∧ (-1 ≤ b.rate ∧ b.rate ≤ 201) ∧ PolSmall p ∧ Nx K g w0 w' := by
  have HT0 := Lib.hid hT
  have hgw := hT.src.lt
  have hOw := ((Nx.refl hT.src).alloc (.cells #[.int .i64 0, .slice none 0 0, .int .i64 0] 40)).alloc (.cells #[.int .i64 0, .int .i64 0, .int .i64 0, .int .i64 0, .int .i64 0] 42)
  have HZB := Lib.hid ((Blk.new w 40 #[.int .i64 0, .slice none 0 0, .int .i64 0]).alloc (.cells #[.int .i64 0, .int .i64 0, .int .i64 0, .int .i64 0, .int .i64 0] 42))
  have HZP := Lib.hid (Blk.new (w.alloc (.cells #[.int .i64 0, .slice none 0 0, .int .i64 0] 40)) 42 #[.int .i64 0, .int .i64 0, .int .i64 0, .int .i64 0, .int .i64 0])
  simp only [World.size_alloc] at HZP
  clear hT
  have hT := Nx.refl hOw.src
  have HSZ := Lib.hid (show w.heap.size + 2 = ((w.alloc (.cells #[.int .i64 0, .slice none 0 0, .int .i64 0] 40)).alloc (.cells #[.int .i64 0, .int .i64 0, .int .i64 0, .int .i64 0, .int .i64 0] 42)).heap.size by simp)
  go_enter Tryz.func53, Tryz.ntmps53
  go_wp2_with fail
  generalize (w.alloc (.cells #[.int .i64 0, .slice none 0 0, .int .i64 0] 40)).alloc (.cells #[.int .i64 0, .int .i64 0, .int .i64 0, .int .i64 0, .int .i64 0] 42) = Wa at hT hOw HZB HZP HSZ ⊢
  go_upto_region 2 with ((go_at_call 85; refine (spec_l07Draw_any K hK g _ _ (by first | exact hT | exact hT.alloc _ | exact (hT.alloc _).alloc _ | exact hT.drew) ).mono ?_; rintro e w3 ⟨f, A1, n1, c1, r, kd, ag, yr, rfl, hE, hn1, hf1, hr, hkd, hag, hyr, hT⟩); have hO := hT; have hT := Nx.refl hT.src)
  have HOa := Lib.hid hO
  have hO2 := (hOw.trans hO).alloc (.cells #[.int .i64 f, .slice A1 n1 c1] 26)
  have HBT := Lib.hid (Blk.new w3 26 #[.int .i64 f, .slice A1 n1 c1])
  have HE3 := Lib.hid (hE.past ((Below.refl w3.heap.size w3).alloc (Nat.le_refl _) (.cells #[.int .i64 f, .slice A1 n1 c1] 26)))
  have HZB := Lib.hid ((HZB.out.nx hO (by have := HZB.out.lt; have := HSZ.out; omega)).alloc (.cells #[.int .i64 f, .slice A1 n1 c1] 26))
  have HZP := Lib.hid ((HZP.out.nx hO (by have := HSZ.out; omega)).alloc (.cells #[.int .i64 f, .slice A1 n1 c1] 26))
  have hgt : g < w3.heap.size := hT.src.lt
  have hat : Wa.heap.size ≤ w3.heap.size := hO.size
  have hT := Nx.refl hO2.src
  have HAG := Lib.hid (fun a (ha : A1 = some ⟨a, 0, none⟩) => (hE.lt ha).2)
  clear hE hO
  generalize w3.alloc (.cells #[.int .i64 f, .slice A1 n1 c1] 26) = Wc at hO2 HBT HE3 hT HZB HZP ⊢
  have HBTc := Lib.hid HBT.out.lt
  generalize w3.heap.size = Gt at HBT hgt hat HBTc HAG ⊢
  go_upto_region 3 with (first | (go_at_call 86; refine (spec_l07DrawSum_any K hK g _ _ (by first | exact hT | exact hT.alloc _ | exact (hT.alloc _).alloc _ | exact hT.drew) ).mono ?_; rintro e w3 ⟨sm, rfl, hsm, hT⟩) | (go_at_call 32; refine (spec_l01Next_any K hK g _ _ _ (Nx.refl (Nx.src (by first | exact hT | exact hT.alloc _ | exact (hT.alloc _).alloc _ | exact hT.drew)))).mono ?_; rintro e w3 ⟨x, rfl, ⟨hx0, hx1⟩, hN⟩; have hT := Nx.trans (by first | exact hT | exact hT.alloc _ | exact (hT.alloc _).alloc _ | exact hT.drew) hN) | (go_at_call 33; refine (spec_l01Pick_new K hK g _ _ _ _ (by first | exact hT | exact hT.alloc _ | exact (hT.alloc _).alloc _ | exact hT.drew) (by rfl) (by decide) (by decide) (by rfl)).mono ?_; rintro e w3 ⟨x, rfl, hx, hT⟩; simp only [OneOf, Value.int.injEq, true_and, or_false] at hx))
  -- behind region 2
  rename Int => ld
  have hld : 0 ≤ ld ∧ ld ≤ 300 := by omega
  have hwa : w.heap.size + 2 = Wa.heap.size := HSZ.out
  have hnb : w.heap.size ≠ g := by omega
  have hga : g < Wa.heap.size := by omega
  have hnp : w.heap.size + 1 ≠ g := by intro h; have h1 := HZP.out.lt; have h2 := HSZ.out; omega
  have hO3 := (hO2.trans hT).alloc (.cells #[.int .i64 kd, .int .i64 ag, .int .i64 yr, .int .i64 sm, .int .i64 ld] 42)
  have HBP := Lib.hid (Blk.new w3 42 #[.int .i64 kd, .int .i64 ag, .int .i64 yr, .int .i64 sm, .int .i64 ld])
  have HBT := Lib.hid ((HBT.out.nx hT (Nat.ne_of_gt hgt)).alloc (.cells #[.int .i64 kd, .int .i64 ag, .int .i64 yr, .int .i64 sm, .int .i64 ld] 42))
  have HZB := Lib.hid ((HZB.out.nx hT hnb).alloc (.cells #[.int .i64 kd, .int .i64 ag, .int .i64 yr, .int .i64 sm, .int .i64 ld] 42))
  have HZP := Lib.hid ((HZP.out.nx hT hnp).alloc (.cells #[.int .i64 kd, .int .i64 ag, .int .i64 yr, .int .i64 sm, .int .i64 ld] 42))
  have HE3 := Lib.hid ((HE3.out.nx hT hga).past ((Below.refl w3.heap.size w3).alloc (Nat.le_refl _) (.cells #[.int .i64 kd, .int .i64 ag, .int .i64 yr, .int .i64 sm, .int .i64 ld] 42)))
  have hgp : g < w3.heap.size := hT.src.lt
  have htp : Gt < w3.heap.size := by have := (HBT.out.lt); have h2 := hT.size; have h3 : Gt < Wc.heap.size := HBTc.out; omega
  have hT := Nx.refl hO3.src
  clear hO2 hN hx hx0 hx1
  generalize w3.alloc (.cells #[.int .i64 kd, .int .i64 ag, .int .i64 yr, .int .i64 sm, .int .i64 ld] 42) = Wd at hO3 HBT HBP HE3 hT HZB HZP ⊢
  have HBPc := Lib.hid HBP.out.lt
  generalize w3.heap.size = Gp at HBP hgp htp HBPc ⊢
  have hcT := Lib.hid (Blk.agg (cs := [.int .i64 f, .slice A1 n1 c1]) HBT.out 0 [.int .i64 f, .slice A1 n1 c1] rfl)
  go_upto_region 4 with (refine wpList_load_agg rfl 26 _ rfl ⟨Gt, 0, none⟩ rfl [.int .i64 f, .slice A1 n1 c1] hcT.out _ Tryz.underlying26 rfl Tab.size ?_)
  have hO4 := hO3.alloc (.cells #[.int .i64 f, .slice A1 n1 c1, .int .i64 r] 40)
  have HBB := Lib.hid (Blk.new Wd 40 #[.int .i64 f, .slice A1 n1 c1, .int .i64 r])
  have HBT := Lib.hid (HBT.out.alloc (.cells #[.int .i64 f, .slice A1 n1 c1, .int .i64 r] 40))
  have HBP := Lib.hid (HBP.out.alloc (.cells #[.int .i64 f, .slice A1 n1 c1, .int .i64 r] 40))
  have HZB := Lib.hid (HZB.out.alloc (.cells #[.int .i64 f, .slice A1 n1 c1, .int .i64 r] 40))
  have HZP := Lib.hid (HZP.out.alloc (.cells #[.int .i64 f, .slice A1 n1 c1, .int .i64 r] 40))
  have HE3 := Lib.hid (HE3.out.past ((Below.refl Wd.heap.size Wd).alloc (Nat.le_refl _) (.cells #[.int .i64 f, .slice A1 n1 c1, .int .i64 r] 40)))
  have hgb : g < Wd.heap.size := hT.src.lt
  have hpb : Gp < Wd.heap.size := HBPc.out
  clear hT hO3 hcT
  generalize Wd.alloc (.cells #[.int .i64 f, .slice A1 n1 c1, .int .i64 r] 40) = We at hO4 HBT HBP HBB HE3 HZB HZP ⊢
  generalize Wd.heap.size = Gb at HBB hgb hpb ⊢
  have HX0 := Lib.hid (show E10 K g w We Wa.heap.size Gt Gp Gb f A1 n1 c1 r ⟨kd, ag, yr, sm, ld⟩ from ⟨HBT.out, HBP.out, HBB.out, HE3, HZB.out, HZP.out, hO4, hgw, by omega, hat, htp, hpb, fun a ha => by have := HAG.out a ha; omega⟩)
  clear HBT HBP HBB HE3 HZB HZP hO4 HAG
  go_wp2_with fail
  go_loopw [11] (fun i wr => ∃ (k : Nat) (ag yr : Int), k ≤ 6 ∧ i = .int .i64 k ∧ (-5000 ≤ ag ∧ ag ≤ 5000) ∧ (-5000 ≤ yr ∧ yr ≤ 5000) ∧ Hid (E10 K g w wr Wa.heap.size Gt Gp Gb f A1 n1 c1 r ⟨kd, ag, yr, sm, ld⟩)) (fun i _ => 6 - (intOf i).toNat)
  case atStart => exact ⟨0, ag, yr, by omega, rfl, by omega, by omega, HX0⟩
  case round =>
    clear hag hyr HX0
    obtain ⟨k, ag, yr, hk, rfl, ⟨ag0, ag1⟩, ⟨yr0, yr1⟩, HX⟩ := hrel
    by_cases hlt : k < 6
    rotate_left
    · have hki : ¬ (k : Int) < 6 := by omega
      go_upto_region 11 with fail
      have HT8 := Lib.hid (Nx.refl HX.out.nx.src)
      have hT := HT8.out
      go_upto_region 16 with (first | ((go_at_call 32; refine (spec_l01Next_any K hK g _ _ _ (Nx.refl (Nx.src (by first | exact hT | exact hT.alloc _ | exact (hT.alloc _).alloc _ | exact hT.drew)))).mono ?_; rintro e w3 ⟨x, rfl, ⟨hx0, hx1⟩, hN⟩; have hT := Nx.trans (by first | exact hT | exact hT.alloc _ | exact (hT.alloc _).alloc _ | exact hT.drew) hN); have E3 := HX.out.nxx hT; have e2 := E3.p.cell 2; have z2 := E3.p.frozen 2) | ((go_at_call 33; refine (spec_l01Pick_new K hK g _ _ _ _ (by first | exact hT | exact hT.alloc _ | exact (hT.alloc _).alloc _ | exact hT.drew) (by rfl) (by decide) (by decide) (by rfl)).mono ?_; rintro e w3 ⟨x, rfl, hx, hT⟩; simp only [OneOf, Value.int.injEq, true_and, or_false] at hx); have E3 := HX.out.nxx hT; have e4 := E3.p.cell 4; have z4 := E3.p.frozen 4))
      · have E9 : E10 K g w (w3.setCell ⟨Gp, 4, none⟩ (.int .i64 x)) Wa.heap.size Gt Gp Gb f A1 n1 c1 r ⟨kd, ag, yr, sm, x⟩ := E3.put 4 (.int .i64 x) ⟨kd, ag, yr, sm, x⟩ (by simp)
        have hxx : -1 ≤ x ∧ x ≤ 1001 := by omega
        clear hx hT e4 z4 E3 e2 z2
        generalize w3.setCell ⟨Gp, 4, none⟩ (.int .i64 x) = W9 at E9 ⊢
        have HPF := Lib.hid (show PolSmall ⟨kd, ag, yr, sm, x⟩ from ⟨by show -2000000000 ≤ kd ∧ kd ≤ 2000000000; omega, by show -2000000000 ≤ ag ∧ ag ≤ 2000000000; omega, by show -2000000000 ≤ yr ∧ yr ≤ 2000000000; omega, by show -2000000000 ≤ sm ∧ sm ≤ 2000000000; omega, by show -2000000000 ≤ x ∧ x ≤ 2000000000; omega⟩)
        have HE9 := Lib.hid E9
        have hgw9 := E9.gw
        have hwB := E9.wB
        have q3 := E9.Bt
        have q4 := E9.tp
        have q5 := E9.pb
        clear E9
        have b0 : W9.cell? ⟨Gb, 0, none⟩ = some (.int .i64 f) := HE9.out.b.cell 0
        have b1 : W9.cell? ⟨Gb, 1, none⟩ = some (.slice A1 n1 c1) := HE9.out.b.cell 1
        have b2 : W9.cell? ⟨Gb, 2, none⟩ = some (.int .i64 r) := HE9.out.b.cell 2
        have p0 : W9.cell? ⟨Gp, 0, none⟩ = some (.int .i64 (kd)) := HE9.out.p.cell 0
        have p1 : W9.cell? ⟨Gp, 1, none⟩ = some (.int .i64 (ag)) := HE9.out.p.cell 1
        have p2 : W9.cell? ⟨Gp, 2, none⟩ = some (.int .i64 (yr)) := HE9.out.p.cell 2
        have p3 : W9.cell? ⟨Gp, 3, none⟩ = some (.int .i64 (sm)) := HE9.out.p.cell 3
        have p4 : W9.cell? ⟨Gp, 4, none⟩ = some (.int .i64 (x)) := HE9.out.p.cell 4
        have zc0 : W9.cell? ⟨w.heap.size, 0, none⟩ = some (.int .i64 0) := HE9.out.zb.cell 0
        have zf0 : W9.frozen? ⟨w.heap.size, 0, none⟩ = false := HE9.out.zb.frozen 0
        have zc1 : W9.cell? ⟨w.heap.size, 1, none⟩ = some (.slice none 0 0) := HE9.out.zb.cell 1
        have zf1 : W9.frozen? ⟨w.heap.size, 1, none⟩ = false := HE9.out.zb.frozen 1
        have zc2 : W9.cell? ⟨w.heap.size, 2, none⟩ = some (.int .i64 0) := HE9.out.zb.cell 2
        have zf2 : W9.frozen? ⟨w.heap.size, 2, none⟩ = false := HE9.out.zb.frozen 2
        have yc0 : W9.cell? ⟨w.heap.size + 1, 0, none⟩ = some (.int .i64 0) := HE9.out.zp.cell 0
        have yf0 : W9.frozen? ⟨w.heap.size + 1, 0, none⟩ = false := HE9.out.zp.frozen 0
        have yc1 : W9.cell? ⟨w.heap.size + 1, 1, none⟩ = some (.int .i64 0) := HE9.out.zp.cell 1
        have yf1 : W9.frozen? ⟨w.heap.size + 1, 1, none⟩ = false := HE9.out.zp.frozen 1
        have yc2 : W9.cell? ⟨w.heap.size + 1, 2, none⟩ = some (.int .i64 0) := HE9.out.zp.cell 2
        have yf2 : W9.frozen? ⟨w.heap.size + 1, 2, none⟩ = false := HE9.out.zp.frozen 2
        have yc3 : W9.cell? ⟨w.heap.size + 1, 3, none⟩ = some (.int .i64 0) := HE9.out.zp.cell 3
        have yf3 : W9.frozen? ⟨w.heap.size + 1, 3, none⟩ = false := HE9.out.zp.frozen 3
        have yc4 : W9.cell? ⟨w.heap.size + 1, 4, none⟩ = some (.int .i64 0) := HE9.out.zp.cell 4
        have yf4 : W9.frozen? ⟨w.heap.size + 1, 4, none⟩ = false := HE9.out.zp.frozen 4
        have m1 : Gp ≠ w.heap.size := by omega
        have m2 : Gb ≠ w.heap.size := by omega
        have m3 : Gp ≠ w.heap.size + 1 := by omega
        have m4 : Gb ≠ w.heap.size + 1 := by omega
        go_region
        obtain ⟨hz1, hz2, hN8, hE8⟩ := HE9.out.out8
        generalize (((((((((W9).setCell ⟨w.heap.size, 0, none⟩ (.int .i64 f)).setCell ⟨w.heap.size, 1, none⟩ (.slice A1 n1 c1)).setCell ⟨w.heap.size, 2, none⟩ (.int .i64 r)).setCell ⟨w.heap.size + 1, 0, none⟩ (.int .i64 (kd))).setCell ⟨w.heap.size + 1, 1, none⟩ (.int .i64 (ag))).setCell ⟨w.heap.size + 1, 2, none⟩ (.int .i64 (yr))).setCell ⟨w.heap.size + 1, 3, none⟩ (.int .i64 (sm))).setCell ⟨w.heap.size + 1, 4, none⟩ (.int .i64 (x))).drew = WF at hz1 hz2 hN8 hE8 ⊢
        have r0 : WF.cell? ⟨w.heap.size, 0, none⟩ = some (.int .i64 f) := hz1.cell 0
        have r1 : WF.cell? ⟨w.heap.size, 1, none⟩ = some (.slice A1 n1 c1) := hz1.cell 1
        have r2 : WF.cell? ⟨w.heap.size, 2, none⟩ = some (.int .i64 r) := hz1.cell 2
        have s0 : WF.cell? ⟨w.heap.size + 1, 0, none⟩ = some (.int .i64 (kd)) := hz2.cell 0
        have s1 : WF.cell? ⟨w.heap.size + 1, 1, none⟩ = some (.int .i64 (ag)) := hz2.cell 1
        have s2 : WF.cell? ⟨w.heap.size + 1, 2, none⟩ = some (.int .i64 (yr)) := hz2.cell 2
        have s3 : WF.cell? ⟨w.heap.size + 1, 3, none⟩ = some (.int .i64 (sm)) := hz2.cell 3
        have s4 : WF.cell? ⟨w.heap.size + 1, 4, none⟩ = some (.int .i64 (x)) := hz2.cell 4
        go_wp2
        refine bodyPost_ret (v := .tuple #[.agg #[.int .i64 f, .slice A1 n1 c1, .int .i64 r], .agg #[.int .i64 kd, .int .i64 ag, .int .i64 yr, .int .i64 sm, .int .i64 x]]) (by simp [results, Tryz.results53, go_sem, r0, r1, r2, s0, s1, s2, s3, s4]) rfl ?_
        obtain ⟨xs, hRx, hfx⟩ := hE8
        exact ⟨⟨f, xs, r⟩, A1, n1, c1, ⟨kd, ag, yr, sm, x⟩, rfl, hRx.more (by have := HT0.out.size; omega), hn1, hfx, hf1, hr, HPF.out, HT0.out.trans hN8⟩
      · have E9 : E10 K g w (w3.setCell ⟨Gp, 2, none⟩ (.int .i64 (yr + 20))) Wa.heap.size Gt Gp Gb f A1 n1 c1 r ⟨kd, ag, yr + 20, sm, ld⟩ := E3.put 2 (.int .i64 (yr + 20)) ⟨kd, ag, yr + 20, sm, ld⟩ (by simp)
        clear hT E3 e2 z2
        generalize w3.setCell ⟨Gp, 2, none⟩ (.int .i64 (yr + 20)) = W9 at E9 ⊢
        have HPF := Lib.hid (show PolSmall ⟨kd, ag, (yr + 20), sm, ld⟩ from ⟨by show -2000000000 ≤ kd ∧ kd ≤ 2000000000; omega, by show -2000000000 ≤ ag ∧ ag ≤ 2000000000; omega, by show -2000000000 ≤ (yr + 20) ∧ (yr + 20) ≤ 2000000000; omega, by show -2000000000 ≤ sm ∧ sm ≤ 2000000000; omega, by show -2000000000 ≤ ld ∧ ld ≤ 2000000000; omega⟩)
        have HE9 := Lib.hid E9
        have hgw9 := E9.gw
        have hwB := E9.wB
        have q3 := E9.Bt
        have q4 := E9.tp
        have q5 := E9.pb
        clear E9
        have b0 : W9.cell? ⟨Gb, 0, none⟩ = some (.int .i64 f) := HE9.out.b.cell 0
        have b1 : W9.cell? ⟨Gb, 1, none⟩ = some (.slice A1 n1 c1) := HE9.out.b.cell 1
        have b2 : W9.cell? ⟨Gb, 2, none⟩ = some (.int .i64 r) := HE9.out.b.cell 2
        have p0 : W9.cell? ⟨Gp, 0, none⟩ = some (.int .i64 (kd)) := HE9.out.p.cell 0
        have p1 : W9.cell? ⟨Gp, 1, none⟩ = some (.int .i64 (ag)) := HE9.out.p.cell 1
        have p2 : W9.cell? ⟨Gp, 2, none⟩ = some (.int .i64 ((yr + 20))) := HE9.out.p.cell 2
        have p3 : W9.cell? ⟨Gp, 3, none⟩ = some (.int .i64 (sm)) := HE9.out.p.cell 3
        have p4 : W9.cell? ⟨Gp, 4, none⟩ = some (.int .i64 (ld)) := HE9.out.p.cell 4
        have zc0 : W9.cell? ⟨w.heap.size, 0, none⟩ = some (.int .i64 0) := HE9.out.zb.cell 0
        have zf0 : W9.frozen? ⟨w.heap.size, 0, none⟩ = false := HE9.out.zb.frozen 0
        have zc1 : W9.cell? ⟨w.heap.size, 1, none⟩ = some (.slice none 0 0) := HE9.out.zb.cell 1
        have zf1 : W9.frozen? ⟨w.heap.size, 1, none⟩ = false := HE9.out.zb.frozen 1
        have zc2 : W9.cell? ⟨w.heap.size, 2, none⟩ = some (.int .i64 0) := HE9.out.zb.cell 2
        have zf2 : W9.frozen? ⟨w.heap.size, 2, none⟩ = false := HE9.out.zb.frozen 2
        have yc0 : W9.cell? ⟨w.heap.size + 1, 0, none⟩ = some (.int .i64 0) := HE9.out.zp.cell 0
        have yf0 : W9.frozen? ⟨w.heap.size + 1, 0, none⟩ = false := HE9.out.zp.frozen 0
        have yc1 : W9.cell? ⟨w.heap.size + 1, 1, none⟩ = some (.int .i64 0) := HE9.out.zp.cell 1
        have yf1 : W9.frozen? ⟨w.heap.size + 1, 1, none⟩ = false := HE9.out.zp.frozen 1
        have yc2 : W9.cell? ⟨w.heap.size + 1, 2, none⟩ = some (.int .i64 0) := HE9.out.zp.cell 2
        have yf2 : W9.frozen? ⟨w.heap.size + 1, 2, none⟩ = false := HE9.out.zp.frozen 2
        have yc3 : W9.cell? ⟨w.heap.size + 1, 3, none⟩ = some (.int .i64 0) := HE9.out.zp.cell 3
        have yf3 : W9.frozen? ⟨w.heap.size + 1, 3, none⟩ = false := HE9.out.zp.frozen 3
        have yc4 : W9.cell? ⟨w.heap.size + 1, 4, none⟩ = some (.int .i64 0) := HE9.out.zp.cell 4
        have yf4 : W9.frozen? ⟨w.heap.size + 1, 4, none⟩ = false := HE9.out.zp.frozen 4
        have m1 : Gp ≠ w.heap.size := by omega
        have m2 : Gb ≠ w.heap.size := by omega
        have m3 : Gp ≠ w.heap.size + 1 := by omega
        have m4 : Gb ≠ w.heap.size + 1 := by omega
        go_region
        obtain ⟨hz1, hz2, hN8, hE8⟩ := HE9.out.out8
        generalize (((((((((W9).setCell ⟨w.heap.size, 0, none⟩ (.int .i64 f)).setCell ⟨w.heap.size, 1, none⟩ (.slice A1 n1 c1)).setCell ⟨w.heap.size, 2, none⟩ (.int .i64 r)).setCell ⟨w.heap.size + 1, 0, none⟩ (.int .i64 (kd))).setCell ⟨w.heap.size + 1, 1, none⟩ (.int .i64 (ag))).setCell ⟨w.heap.size + 1, 2, none⟩ (.int .i64 ((yr + 20)))).setCell ⟨w.heap.size + 1, 3, none⟩ (.int .i64 (sm))).setCell ⟨w.heap.size + 1, 4, none⟩ (.int .i64 (ld))).drew = WF at hz1 hz2 hN8 hE8 ⊢
        have r0 : WF.cell? ⟨w.heap.size, 0, none⟩ = some (.int .i64 f) := hz1.cell 0
        have r1 : WF.cell? ⟨w.heap.size, 1, none⟩ = some (.slice A1 n1 c1) := hz1.cell 1
        have r2 : WF.cell? ⟨w.heap.size, 2, none⟩ = some (.int .i64 r) := hz1.cell 2
        have s0 : WF.cell? ⟨w.heap.size + 1, 0, none⟩ = some (.int .i64 (kd)) := hz2.cell 0
        have s1 : WF.cell? ⟨w.heap.size + 1, 1, none⟩ = some (.int .i64 (ag)) := hz2.cell 1
        have s2 : WF.cell? ⟨w.heap.size + 1, 2, none⟩ = some (.int .i64 ((yr + 20))) := hz2.cell 2
        have s3 : WF.cell? ⟨w.heap.size + 1, 3, none⟩ = some (.int .i64 (sm)) := hz2.cell 3
        have s4 : WF.cell? ⟨w.heap.size + 1, 4, none⟩ = some (.int .i64 (ld)) := hz2.cell 4
        go_wp2
        refine bodyPost_ret (v := .tuple #[.agg #[.int .i64 f, .slice A1 n1 c1, .int .i64 r], .agg #[.int .i64 kd, .int .i64 ag, .int .i64 (yr + 20), .int .i64 sm, .int .i64 ld]]) (by simp [results, Tryz.results53, go_sem, r0, r1, r2, s0, s1, s2, s3, s4]) rfl ?_
        obtain ⟨xs, hRx, hfx⟩ := hE8
        exact ⟨⟨f, xs, r⟩, A1, n1, c1, ⟨kd, ag, (yr + 20), sm, ld⟩, rfl, hRx.more (by have := HT0.out.size; omega), hn1, hfx, hf1, hr, HPF.out, HT0.out.trans hN8⟩
      · clear hT e2 z2
        generalize w3 = W9 at E3 ⊢
        have E9 := E3
        clear E3
        have HPF := Lib.hid (show PolSmall ⟨kd, ag, yr, sm, ld⟩ from ⟨by show -2000000000 ≤ kd ∧ kd ≤ 2000000000; omega, by show -2000000000 ≤ ag ∧ ag ≤ 2000000000; omega, by show -2000000000 ≤ yr ∧ yr ≤ 2000000000; omega, by show -2000000000 ≤ sm ∧ sm ≤ 2000000000; omega, by show -2000000000 ≤ ld ∧ ld ≤ 2000000000; omega⟩)
        have HE9 := Lib.hid E9
        have hgw9 := E9.gw
        have hwB := E9.wB
        have q3 := E9.Bt
        have q4 := E9.tp
        have q5 := E9.pb
        clear E9
        have b0 : W9.cell? ⟨Gb, 0, none⟩ = some (.int .i64 f) := HE9.out.b.cell 0
        have b1 : W9.cell? ⟨Gb, 1, none⟩ = some (.slice A1 n1 c1) := HE9.out.b.cell 1
        have b2 : W9.cell? ⟨Gb, 2, none⟩ = some (.int .i64 r) := HE9.out.b.cell 2
        have p0 : W9.cell? ⟨Gp, 0, none⟩ = some (.int .i64 (kd)) := HE9.out.p.cell 0
        have p1 : W9.cell? ⟨Gp, 1, none⟩ = some (.int .i64 (ag)) := HE9.out.p.cell 1
        have p2 : W9.cell? ⟨Gp, 2, none⟩ = some (.int .i64 (yr)) := HE9.out.p.cell 2
        have p3 : W9.cell? ⟨Gp, 3, none⟩ = some (.int .i64 (sm)) := HE9.out.p.cell 3
        have p4 : W9.cell? ⟨Gp, 4, none⟩ = some (.int .i64 (ld)) := HE9.out.p.cell 4
        have zc0 : W9.cell? ⟨w.heap.size, 0, none⟩ = some (.int .i64 0) := HE9.out.zb.cell 0
        have zf0 : W9.frozen? ⟨w.heap.size, 0, none⟩ = false := HE9.out.zb.frozen 0
        have zc1 : W9.cell? ⟨w.heap.size, 1, none⟩ = some (.slice none 0 0) := HE9.out.zb.cell 1
        have zf1 : W9.frozen? ⟨w.heap.size, 1, none⟩ = false := HE9.out.zb.frozen 1
        have zc2 : W9.cell? ⟨w.heap.size, 2, none⟩ = some (.int .i64 0) := HE9.out.zb.cell 2
        have zf2 : W9.frozen? ⟨w.heap.size, 2, none⟩ = false := HE9.out.zb.frozen 2
        have yc0 : W9.cell? ⟨w.heap.size + 1, 0, none⟩ = some (.int .i64 0) := HE9.out.zp.cell 0
        have yf0 : W9.frozen? ⟨w.heap.size + 1, 0, none⟩ = false := HE9.out.zp.frozen 0
        have yc1 : W9.cell? ⟨w.heap.size + 1, 1, none⟩ = some (.int .i64 0) := HE9.out.zp.cell 1
        have yf1 : W9.frozen? ⟨w.heap.size + 1, 1, none⟩ = false := HE9.out.zp.frozen 1
        have yc2 : W9.cell? ⟨w.heap.size + 1, 2, none⟩ = some (.int .i64 0) := HE9.out.zp.cell 2
        have yf2 : W9.frozen? ⟨w.heap.size + 1, 2, none⟩ = false := HE9.out.zp.frozen 2
        have yc3 : W9.cell? ⟨w.heap.size + 1, 3, none⟩ = some (.int .i64 0) := HE9.out.zp.cell 3
        have yf3 : W9.frozen? ⟨w.heap.size + 1, 3, none⟩ = false := HE9.out.zp.frozen 3
        have yc4 : W9.cell? ⟨w.heap.size + 1, 4, none⟩ = some (.int .i64 0) := HE9.out.zp.cell 4
        have yf4 : W9.frozen? ⟨w.heap.size + 1, 4, none⟩ = false := HE9.out.zp.frozen 4
        have m1 : Gp ≠ w.heap.size := by omega
        have m2 : Gb ≠ w.heap.size := by omega
        have m3 : Gp ≠ w.heap.size + 1 := by omega
        have m4 : Gb ≠ w.heap.size + 1 := by omega
        go_region
        obtain ⟨hz1, hz2, hN8, hE8⟩ := HE9.out.out8
        generalize (((((((((W9).setCell ⟨w.heap.size, 0, none⟩ (.int .i64 f)).setCell ⟨w.heap.size, 1, none⟩ (.slice A1 n1 c1)).setCell ⟨w.heap.size, 2, none⟩ (.int .i64 r)).setCell ⟨w.heap.size + 1, 0, none⟩ (.int .i64 (kd))).setCell ⟨w.heap.size + 1, 1, none⟩ (.int .i64 (ag))).setCell ⟨w.heap.size + 1, 2, none⟩ (.int .i64 (yr))).setCell ⟨w.heap.size + 1, 3, none⟩ (.int .i64 (sm))).setCell ⟨w.heap.size + 1, 4, none⟩ (.int .i64 (ld))).drew = WF at hz1 hz2 hN8 hE8 ⊢
        have r0 : WF.cell? ⟨w.heap.size, 0, none⟩ = some (.int .i64 f) := hz1.cell 0
        have r1 : WF.cell? ⟨w.heap.size, 1, none⟩ = some (.slice A1 n1 c1) := hz1.cell 1
        have r2 : WF.cell? ⟨w.heap.size, 2, none⟩ = some (.int .i64 r) := hz1.cell 2
        have s0 : WF.cell? ⟨w.heap.size + 1, 0, none⟩ = some (.int .i64 (kd)) := hz2.cell 0
        have s1 : WF.cell? ⟨w.heap.size + 1, 1, none⟩ = some (.int .i64 (ag)) := hz2.cell 1
        have s2 : WF.cell? ⟨w.heap.size + 1, 2, none⟩ = some (.int .i64 (yr)) := hz2.cell 2
        have s3 : WF.cell? ⟨w.heap.size + 1, 3, none⟩ = some (.int .i64 (sm)) := hz2.cell 3
        have s4 : WF.cell? ⟨w.heap.size + 1, 4, none⟩ = some (.int .i64 (ld)) := hz2.cell 4
        go_wp2
        refine bodyPost_ret (v := .tuple #[.agg #[.int .i64 f, .slice A1 n1 c1, .int .i64 r], .agg #[.int .i64 kd, .int .i64 ag, .int .i64 yr, .int .i64 sm, .int .i64 ld]]) (by simp [results, Tryz.results53, go_sem, r0, r1, r2, s0, s1, s2, s3, s4]) rfl ?_
        obtain ⟨xs, hRx, hfx⟩ := hE8
        exact ⟨⟨f, xs, r⟩, A1, n1, c1, ⟨kd, ag, yr, sm, ld⟩, rfl, hRx.more (by have := HT0.out.size; omega), hn1, hfx, hf1, hr, HPF.out, HT0.out.trans hN8⟩
    have hki : (k : Int) < 6 := by omega
    obtain ⟨xs, hxl, hBT, hfx⟩ := HX.out.basT (by unfold In64; omega) (by unfold In64; omega) (by omega)
    have HBT := Lib.hid hBT
    have b0 : wr.cell? ⟨Gb, 0, none⟩ = some (.int .i64 f) := HX.out.b.cell 0
    have b1 : wr.cell? ⟨Gb, 1, none⟩ = some (.slice A1 n1 c1) := HX.out.b.cell 1
    have b2 : wr.cell? ⟨Gb, 2, none⟩ = some (.int .i64 r) := HX.out.b.cell 2
    cases hb : basisB ⟨f, xs, r⟩
    · go_wp2_with (go_at_call 87; refine (spec_IsBasis_any ⟨f, xs, r⟩ A1 n1 c1 _ hBT).mono ?_; rw [hb]; rintro e w2 ⟨rfl, hb2⟩)
      have HX := Lib.hid (HX.out.past hb2)
      go_upto_region 11 with fail
      have HT8 := Lib.hid (Nx.refl HX.out.nx.src)
      have hT := HT8.out
      go_upto_region 16 with (first | ((go_at_call 32; refine (spec_l01Next_any K hK g _ _ _ (Nx.refl (Nx.src (by first | exact hT | exact hT.alloc _ | exact (hT.alloc _).alloc _ | exact hT.drew)))).mono ?_; rintro e w3 ⟨x, rfl, ⟨hx0, hx1⟩, hN⟩; have hT := Nx.trans (by first | exact hT | exact hT.alloc _ | exact (hT.alloc _).alloc _ | exact hT.drew) hN); have E3 := HX.out.nxx hT; have e2 := E3.p.cell 2; have z2 := E3.p.frozen 2) | ((go_at_call 33; refine (spec_l01Pick_new K hK g _ _ _ _ (by first | exact hT | exact hT.alloc _ | exact (hT.alloc _).alloc _ | exact hT.drew) (by rfl) (by decide) (by decide) (by rfl)).mono ?_; rintro e w3 ⟨x, rfl, hx, hT⟩; simp only [OneOf, Value.int.injEq, true_and, or_false] at hx); have E3 := HX.out.nxx hT; have e4 := E3.p.cell 4; have z4 := E3.p.frozen 4))
      · have E9 : E10 K g w (w3.setCell ⟨Gp, 4, none⟩ (.int .i64 x)) Wa.heap.size Gt Gp Gb f A1 n1 c1 r ⟨kd, ag, yr, sm, x⟩ := E3.put 4 (.int .i64 x) ⟨kd, ag, yr, sm, x⟩ (by simp)
        have hxx : -1 ≤ x ∧ x ≤ 1001 := by omega
        clear hx hT e4 z4 E3 e2 z2
        generalize w3.setCell ⟨Gp, 4, none⟩ (.int .i64 x) = W9 at E9 ⊢
        have HPF := Lib.hid (show PolSmall ⟨kd, ag, yr, sm, x⟩ from ⟨by show -2000000000 ≤ kd ∧ kd ≤ 2000000000; omega, by show -2000000000 ≤ ag ∧ ag ≤ 2000000000; omega, by show -2000000000 ≤ yr ∧ yr ≤ 2000000000; omega, by show -2000000000 ≤ sm ∧ sm ≤ 2000000000; omega, by show -2000000000 ≤ x ∧ x ≤ 2000000000; omega⟩)
        have HE9 := Lib.hid E9
        have hgw9 := E9.gw
        have hwB := E9.wB
        have q3 := E9.Bt
        have q4 := E9.tp
        have q5 := E9.pb
        clear E9
        have b0 : W9.cell? ⟨Gb, 0, none⟩ = some (.int .i64 f) := HE9.out.b.cell 0
        have b1 : W9.cell? ⟨Gb, 1, none⟩ = some (.slice A1 n1 c1) := HE9.out.b.cell 1
        have b2 : W9.cell? ⟨Gb, 2, none⟩ = some (.int .i64 r) := HE9.out.b.cell 2
        have p0 : W9.cell? ⟨Gp, 0, none⟩ = some (.int .i64 (kd)) := HE9.out.p.cell 0
        have p1 : W9.cell? ⟨Gp, 1, none⟩ = some (.int .i64 (ag)) := HE9.out.p.cell 1
        have p2 : W9.cell? ⟨Gp, 2, none⟩ = some (.int .i64 (yr)) := HE9.out.p.cell 2
        have p3 : W9.cell? ⟨Gp, 3, none⟩ = some (.int .i64 (sm)) := HE9.out.p.cell 3
        have p4 : W9.cell? ⟨Gp, 4, none⟩ = some (.int .i64 (x)) := HE9.out.p.cell 4
        have zc0 : W9.cell? ⟨w.heap.size, 0, none⟩ = some (.int .i64 0) := HE9.out.zb.cell 0
        have zf0 : W9.frozen? ⟨w.heap.size, 0, none⟩ = false := HE9.out.zb.frozen 0
        have zc1 : W9.cell? ⟨w.heap.size, 1, none⟩ = some (.slice none 0 0) := HE9.out.zb.cell 1
        have zf1 : W9.frozen? ⟨w.heap.size, 1, none⟩ = false := HE9.out.zb.frozen 1
        have zc2 : W9.cell? ⟨w.heap.size, 2, none⟩ = some (.int .i64 0) := HE9.out.zb.cell 2
        have zf2 : W9.frozen? ⟨w.heap.size, 2, none⟩ = false := HE9.out.zb.frozen 2
        have yc0 : W9.cell? ⟨w.heap.size + 1, 0, none⟩ = some (.int .i64 0) := HE9.out.zp.cell 0
        have yf0 : W9.frozen? ⟨w.heap.size + 1, 0, none⟩ = false := HE9.out.zp.frozen 0
        have yc1 : W9.cell? ⟨w.heap.size + 1, 1, none⟩ = some (.int .i64 0) := HE9.out.zp.cell 1
        have yf1 : W9.frozen? ⟨w.heap.size + 1, 1, none⟩ = false := HE9.out.zp.frozen 1
        have yc2 : W9.cell? ⟨w.heap.size + 1, 2, none⟩ = some (.int .i64 0) := HE9.out.zp.cell 2
        have yf2 : W9.frozen? ⟨w.heap.size + 1, 2, none⟩ = false := HE9.out.zp.frozen 2
        have yc3 : W9.cell? ⟨w.heap.size + 1, 3, none⟩ = some (.int .i64 0) := HE9.out.zp.cell 3
        have yf3 : W9.frozen? ⟨w.heap.size + 1, 3, none⟩ = false := HE9.out.zp.frozen 3
        have yc4 : W9.cell? ⟨w.heap.size + 1, 4, none⟩ = some (.int .i64 0) := HE9.out.zp.cell 4
        have yf4 : W9.frozen? ⟨w.heap.size + 1, 4, none⟩ = false := HE9.out.zp.frozen 4
        have m1 : Gp ≠ w.heap.size := by omega
        have m2 : Gb ≠ w.heap.size := by omega
        have m3 : Gp ≠ w.heap.size + 1 := by omega
        have m4 : Gb ≠ w.heap.size + 1 := by omega
        go_region
        obtain ⟨hz1, hz2, hN8, hE8⟩ := HE9.out.out8
        generalize (((((((((W9).setCell ⟨w.heap.size, 0, none⟩ (.int .i64 f)).setCell ⟨w.heap.size, 1, none⟩ (.slice A1 n1 c1)).setCell ⟨w.heap.size, 2, none⟩ (.int .i64 r)).setCell ⟨w.heap.size + 1, 0, none⟩ (.int .i64 (kd))).setCell ⟨w.heap.size + 1, 1, none⟩ (.int .i64 (ag))).setCell ⟨w.heap.size + 1, 2, none⟩ (.int .i64 (yr))).setCell ⟨w.heap.size + 1, 3, none⟩ (.int .i64 (sm))).setCell ⟨w.heap.size + 1, 4, none⟩ (.int .i64 (x))).drew = WF at hz1 hz2 hN8 hE8 ⊢
        have r0 : WF.cell? ⟨w.heap.size, 0, none⟩ = some (.int .i64 f) := hz1.cell 0
        have r1 : WF.cell? ⟨w.heap.size, 1, none⟩ = some (.slice A1 n1 c1) := hz1.cell 1
        have r2 : WF.cell? ⟨w.heap.size, 2, none⟩ = some (.int .i64 r) := hz1.cell 2
        have s0 : WF.cell? ⟨w.heap.size + 1, 0, none⟩ = some (.int .i64 (kd)) := hz2.cell 0
        have s1 : WF.cell? ⟨w.heap.size + 1, 1, none⟩ = some (.int .i64 (ag)) := hz2.cell 1
        have s2 : WF.cell? ⟨w.heap.size + 1, 2, none⟩ = some (.int .i64 (yr)) := hz2.cell 2
        have s3 : WF.cell? ⟨w.heap.size + 1, 3, none⟩ = some (.int .i64 (sm)) := hz2.cell 3
        have s4 : WF.cell? ⟨w.heap.size + 1, 4, none⟩ = some (.int .i64 (x)) := hz2.cell 4
        go_wp2
        refine bodyPost_ret (v := .tuple #[.agg #[.int .i64 f, .slice A1 n1 c1, .int .i64 r], .agg #[.int .i64 kd, .int .i64 ag, .int .i64 yr, .int .i64 sm, .int .i64 x]]) (by simp [results, Tryz.results53, go_sem, r0, r1, r2, s0, s1, s2, s3, s4]) rfl ?_
        obtain ⟨xs, hRx, hfx⟩ := hE8
        exact ⟨⟨f, xs, r⟩, A1, n1, c1, ⟨kd, ag, yr, sm, x⟩, rfl, hRx.more (by have := HT0.out.size; omega), hn1, hfx, hf1, hr, HPF.out, HT0.out.trans hN8⟩
      · have E9 : E10 K g w (w3.setCell ⟨Gp, 2, none⟩ (.int .i64 (yr + 20))) Wa.heap.size Gt Gp Gb f A1 n1 c1 r ⟨kd, ag, yr + 20, sm, ld⟩ := E3.put 2 (.int .i64 (yr + 20)) ⟨kd, ag, yr + 20, sm, ld⟩ (by simp)
        clear hT E3 e2 z2
        generalize w3.setCell ⟨Gp, 2, none⟩ (.int .i64 (yr + 20)) = W9 at E9 ⊢
        have HPF := Lib.hid (show PolSmall ⟨kd, ag, (yr + 20), sm, ld⟩ from ⟨by show -2000000000 ≤ kd ∧ kd ≤ 2000000000; omega, by show -2000000000 ≤ ag ∧ ag ≤ 2000000000; omega, by show -2000000000 ≤ (yr + 20) ∧ (yr + 20) ≤ 2000000000; omega, by show -2000000000 ≤ sm ∧ sm ≤ 2000000000; omega, by show -2000000000 ≤ ld ∧ ld ≤ 2000000000; omega⟩)
        have HE9 := Lib.hid E9
        have hgw9 := E9.gw
        have hwB := E9.wB
        have q3 := E9.Bt
        have q4 := E9.tp
        have q5 := E9.pb
        clear E9
        have b0 : W9.cell? ⟨Gb, 0, none⟩ = some (.int .i64 f) := HE9.out.b.cell 0
        have b1 : W9.cell? ⟨Gb, 1, none⟩ = some (.slice A1 n1 c1) := HE9.out.b.cell 1
        have b2 : W9.cell? ⟨Gb, 2, none⟩ = some (.int .i64 r) := HE9.out.b.cell 2
        have p0 : W9.cell? ⟨Gp, 0, none⟩ = some (.int .i64 (kd)) := HE9.out.p.cell 0
        have p1 : W9.cell? ⟨Gp, 1, none⟩ = some (.int .i64 (ag)) := HE9.out.p.cell 1
        have p2 : W9.cell? ⟨Gp, 2, none⟩ = some (.int .i64 ((yr + 20))) := HE9.out.p.cell 2
        have p3 : W9.cell? ⟨Gp, 3, none⟩ = some (.int .i64 (sm)) := HE9.out.p.cell 3
        have p4 : W9.cell? ⟨Gp, 4, none⟩ = some (.int .i64 (ld)) := HE9.out.p.cell 4
        have zc0 : W9.cell? ⟨w.heap.size, 0, none⟩ = some (.int .i64 0) := HE9.out.zb.cell 0
        have zf0 : W9.frozen? ⟨w.heap.size, 0, none⟩ = false := HE9.out.zb.frozen 0
        have zc1 : W9.cell? ⟨w.heap.size, 1, none⟩ = some (.slice none 0 0) := HE9.out.zb.cell 1
        have zf1 : W9.frozen? ⟨w.heap.size, 1, none⟩ = false := HE9.out.zb.frozen 1
        have zc2 : W9.cell? ⟨w.heap.size, 2, none⟩ = some (.int .i64 0) := HE9.out.zb.cell 2
        have zf2 : W9.frozen? ⟨w.heap.size, 2, none⟩ = false := HE9.out.zb.frozen 2
        have yc0 : W9.cell? ⟨w.heap.size + 1, 0, none⟩ = some (.int .i64 0) := HE9.out.zp.cell 0
        have yf0 : W9.frozen? ⟨w.heap.size + 1, 0, none⟩ = false := HE9.out.zp.frozen 0
        have yc1 : W9.cell? ⟨w.heap.size + 1, 1, none⟩ = some (.int .i64 0) := HE9.out.zp.cell 1
        have yf1 : W9.frozen? ⟨w.heap.size + 1, 1, none⟩ = false := HE9.out.zp.frozen 1
        have yc2 : W9.cell? ⟨w.heap.size + 1, 2, none⟩ = some (.int .i64 0) := HE9.out.zp.cell 2
        have yf2 : W9.frozen? ⟨w.heap.size + 1, 2, none⟩ = false := HE9.out.zp.frozen 2
        have yc3 : W9.cell? ⟨w.heap.size + 1, 3, none⟩ = some (.int .i64 0) := HE9.out.zp.cell 3
        have yf3 : W9.frozen? ⟨w.heap.size + 1, 3, none⟩ = false := HE9.out.zp.frozen 3
        have yc4 : W9.cell? ⟨w.heap.size + 1, 4, none⟩ = some (.int .i64 0) := HE9.out.zp.cell 4
        have yf4 : W9.frozen? ⟨w.heap.size + 1, 4, none⟩ = false := HE9.out.zp.frozen 4
        have m1 : Gp ≠ w.heap.size := by omega
        have m2 : Gb ≠ w.heap.size := by omega
        have m3 : Gp ≠ w.heap.size + 1 := by omega
        have m4 : Gb ≠ w.heap.size + 1 := by omega
        go_region
        obtain ⟨hz1, hz2, hN8, hE8⟩ := HE9.out.out8
        generalize (((((((((W9).setCell ⟨w.heap.size, 0, none⟩ (.int .i64 f)).setCell ⟨w.heap.size, 1, none⟩ (.slice A1 n1 c1)).setCell ⟨w.heap.size, 2, none⟩ (.int .i64 r)).setCell ⟨w.heap.size + 1, 0, none⟩ (.int .i64 (kd))).setCell ⟨w.heap.size + 1, 1, none⟩ (.int .i64 (ag))).setCell ⟨w.heap.size + 1, 2, none⟩ (.int .i64 ((yr + 20)))).setCell ⟨w.heap.size + 1, 3, none⟩ (.int .i64 (sm))).setCell ⟨w.heap.size + 1, 4, none⟩ (.int .i64 (ld))).drew = WF at hz1 hz2 hN8 hE8 ⊢
        have r0 : WF.cell? ⟨w.heap.size, 0, none⟩ = some (.int .i64 f) := hz1.cell 0
        have r1 : WF.cell? ⟨w.heap.size, 1, none⟩ = some (.slice A1 n1 c1) := hz1.cell 1
        have r2 : WF.cell? ⟨w.heap.size, 2, none⟩ = some (.int .i64 r) := hz1.cell 2
        have s0 : WF.cell? ⟨w.heap.size + 1, 0, none⟩ = some (.int .i64 (kd)) := hz2.cell 0
        have s1 : WF.cell? ⟨w.heap.size + 1, 1, none⟩ = some (.int .i64 (ag)) := hz2.cell 1
        have s2 : WF.cell? ⟨w.heap.size + 1, 2, none⟩ = some (.int .i64 ((yr + 20))) := hz2.cell 2
        have s3 : WF.cell? ⟨w.heap.size + 1, 3, none⟩ = some (.int .i64 (sm)) := hz2.cell 3
        have s4 : WF.cell? ⟨w.heap.size + 1, 4, none⟩ = some (.int .i64 (ld)) := hz2.cell 4
        go_wp2
        refine bodyPost_ret (v := .tuple #[.agg #[.int .i64 f, .slice A1 n1 c1, .int .i64 r], .agg #[.int .i64 kd, .int .i64 ag, .int .i64 (yr + 20), .int .i64 sm, .int .i64 ld]]) (by simp [results, Tryz.results53, go_sem, r0, r1, r2, s0, s1, s2, s3, s4]) rfl ?_
        obtain ⟨xs, hRx, hfx⟩ := hE8
        exact ⟨⟨f, xs, r⟩, A1, n1, c1, ⟨kd, ag, (yr + 20), sm, ld⟩, rfl, hRx.more (by have := HT0.out.size; omega), hn1, hfx, hf1, hr, HPF.out, HT0.out.trans hN8⟩
      · clear hT e2 z2
        generalize w3 = W9 at E3 ⊢
        have E9 := E3
        clear E3
        have HPF := Lib.hid (show PolSmall ⟨kd, ag, yr, sm, ld⟩ from ⟨by show -2000000000 ≤ kd ∧ kd ≤ 2000000000; omega, by show -2000000000 ≤ ag ∧ ag ≤ 2000000000; omega, by show -2000000000 ≤ yr ∧ yr ≤ 2000000000; omega, by show -2000000000 ≤ sm ∧ sm ≤ 2000000000; omega, by show -2000000000 ≤ ld ∧ ld ≤ 2000000000; omega⟩)
        have HE9 := Lib.hid E9
        have hgw9 := E9.gw
        have hwB := E9.wB
        have q3 := E9.Bt
        have q4 := E9.tp
        have q5 := E9.pb
        clear E9
        have b0 : W9.cell? ⟨Gb, 0, none⟩ = some (.int .i64 f) := HE9.out.b.cell 0
        have b1 : W9.cell? ⟨Gb, 1, none⟩ = some (.slice A1 n1 c1) := HE9.out.b.cell 1
        have b2 : W9.cell? ⟨Gb, 2, none⟩ = some (.int .i64 r) := HE9.out.b.cell 2
        have p0 : W9.cell? ⟨Gp, 0, none⟩ = some (.int .i64 (kd)) := HE9.out.p.cell 0
        have p1 : W9.cell? ⟨Gp, 1, none⟩ = some (.int .i64 (ag)) := HE9.out.p.cell 1
        have p2 : W9.cell? ⟨Gp, 2, none⟩ = some (.int .i64 (yr)) := HE9.out.p.cell 2
        have p3 : W9.cell? ⟨Gp, 3, none⟩ = some (.int .i64 (sm)) := HE9.out.p.cell 3
        have p4 : W9.cell? ⟨Gp, 4, none⟩ = some (.int .i64 (ld)) := HE9.out.p.cell 4
        have zc0 : W9.cell? ⟨w.heap.size, 0, none⟩ = some (.int .i64 0) := HE9.out.zb.cell 0
        have zf0 : W9.frozen? ⟨w.heap.size, 0, none⟩ = false := HE9.out.zb.frozen 0
        have zc1 : W9.cell? ⟨w.heap.size, 1, none⟩ = some (.slice none 0 0) := HE9.out.zb.cell 1
        have zf1 : W9.frozen? ⟨w.heap.size, 1, none⟩ = false := HE9.out.zb.frozen 1
        have zc2 : W9.cell? ⟨w.heap.size, 2, none⟩ = some (.int .i64 0) := HE9.out.zb.cell 2
        have zf2 : W9.frozen? ⟨w.heap.size, 2, none⟩ = false := HE9.out.zb.frozen 2
        have yc0 : W9.cell? ⟨w.heap.size + 1, 0, none⟩ = some (.int .i64 0) := HE9.out.zp.cell 0
        have yf0 : W9.frozen? ⟨w.heap.size + 1, 0, none⟩ = false := HE9.out.zp.frozen 0
        have yc1 : W9.cell? ⟨w.heap.size + 1, 1, none⟩ = some (.int .i64 0) := HE9.out.zp.cell 1
        have yf1 : W9.frozen? ⟨w.heap.size + 1, 1, none⟩ = false := HE9.out.zp.frozen 1
        have yc2 : W9.cell? ⟨w.heap.size + 1, 2, none⟩ = some (.int .i64 0) := HE9.out.zp.cell 2
        have yf2 : W9.frozen? ⟨w.heap.size + 1, 2, none⟩ = false := HE9.out.zp.frozen 2
        have yc3 : W9.cell? ⟨w.heap.size + 1, 3, none⟩ = some (.int .i64 0) := HE9.out.zp.cell 3
        have yf3 : W9.frozen? ⟨w.heap.size + 1, 3, none⟩ = false := HE9.out.zp.frozen 3
        have yc4 : W9.cell? ⟨w.heap.size + 1, 4, none⟩ = some (.int .i64 0) := HE9.out.zp.cell 4
        have yf4 : W9.frozen? ⟨w.heap.size + 1, 4, none⟩ = false := HE9.out.zp.frozen 4
        have m1 : Gp ≠ w.heap.size := by omega
        have m2 : Gb ≠ w.heap.size := by omega
        have m3 : Gp ≠ w.heap.size + 1 := by omega
        have m4 : Gb ≠ w.heap.size + 1 := by omega
        go_region
        obtain ⟨hz1, hz2, hN8, hE8⟩ := HE9.out.out8
        generalize (((((((((W9).setCell ⟨w.heap.size, 0, none⟩ (.int .i64 f)).setCell ⟨w.heap.size, 1, none⟩ (.slice A1 n1 c1)).setCell ⟨w.heap.size, 2, none⟩ (.int .i64 r)).setCell ⟨w.heap.size + 1, 0, none⟩ (.int .i64 (kd))).setCell ⟨w.heap.size + 1, 1, none⟩ (.int .i64 (ag))).setCell ⟨w.heap.size + 1, 2, none⟩ (.int .i64 (yr))).setCell ⟨w.heap.size + 1, 3, none⟩ (.int .i64 (sm))).setCell ⟨w.heap.size + 1, 4, none⟩ (.int .i64 (ld))).drew = WF at hz1 hz2 hN8 hE8 ⊢
        have r0 : WF.cell? ⟨w.heap.size, 0, none⟩ = some (.int .i64 f) := hz1.cell 0
        have r1 : WF.cell? ⟨w.heap.size, 1, none⟩ = some (.slice A1 n1 c1) := hz1.cell 1
        have r2 : WF.cell? ⟨w.heap.size, 2, none⟩ = some (.int .i64 r) := hz1.cell 2
        have s0 : WF.cell? ⟨w.heap.size + 1, 0, none⟩ = some (.int .i64 (kd)) := hz2.cell 0
        have s1 : WF.cell? ⟨w.heap.size + 1, 1, none⟩ = some (.int .i64 (ag)) := hz2.cell 1
        have s2 : WF.cell? ⟨w.heap.size + 1, 2, none⟩ = some (.int .i64 (yr)) := hz2.cell 2
        have s3 : WF.cell? ⟨w.heap.size + 1, 3, none⟩ = some (.int .i64 (sm)) := hz2.cell 3
        have s4 : WF.cell? ⟨w.heap.size + 1, 4, none⟩ = some (.int .i64 (ld)) := hz2.cell 4
        go_wp2
        refine bodyPost_ret (v := .tuple #[.agg #[.int .i64 f, .slice A1 n1 c1, .int .i64 r], .agg #[.int .i64 kd, .int .i64 ag, .int .i64 yr, .int .i64 sm, .int .i64 ld]]) (by simp [results, Tryz.results53, go_sem, r0, r1, r2, s0, s1, s2, s3, s4]) rfl ?_
        obtain ⟨xs, hRx, hfx⟩ := hE8
        exact ⟨⟨f, xs, r⟩, A1, n1, c1, ⟨kd, ag, yr, sm, ld⟩, rfl, hRx.more (by have := HT0.out.size; omega), hn1, hfx, hf1, hr, HPF.out, HT0.out.trans hN8⟩
    have hpf : (⟨kd, ag, yr, sm, ld⟩ : Policy).fits := ⟨by show In64 kd; unfold In64; omega, by show In64 ag; unfold In64; omega, by show In64 yr; unfold In64; omega, by show In64 sm; unfold In64; omega, by show In64 ld; unfold In64; omega⟩
    have HPFi := Lib.hid hpf
    cases hp : polB ⟨f, xs, r⟩ ⟨kd, ag, yr, sm, ld⟩
    rotate_left
    · go_upto_region 11 with (first | (go_at_call 87; refine (spec_IsBasis_any ⟨f, xs, r⟩ A1 n1 c1 _ HBT.out).mono ?_; rw [hb]; rintro e w2 ⟨rfl, hb2⟩; have HX2 := Lib.hid (HX.out.past hb2); have b0 : w2.cell? ⟨Gb, 0, none⟩ = some (.int .i64 f) := HX2.out.b.cell 0; have b1 : w2.cell? ⟨Gb, 1, none⟩ = some (.slice A1 n1 c1) := HX2.out.b.cell 1; have b2 : w2.cell? ⟨Gb, 2, none⟩ = some (.int .i64 r) := HX2.out.b.cell 2; have p0 : w2.cell? ⟨Gp, 0, none⟩ = some (.int .i64 kd) := HX2.out.p.cell 0; have p1 : w2.cell? ⟨Gp, 1, none⟩ = some (.int .i64 ag) := HX2.out.p.cell 1; have p2 : w2.cell? ⟨Gp, 2, none⟩ = some (.int .i64 yr) := HX2.out.p.cell 2; have p3 : w2.cell? ⟨Gp, 3, none⟩ = some (.int .i64 sm) := HX2.out.p.cell 3; have p4 : w2.cell? ⟨Gp, 4, none⟩ = some (.int .i64 ld) := HX2.out.p.cell 4; have HBT2 := Lib.hid (HBT.out.past hb2)) | (go_at_call 56; refine (spec_IsPolicy_any ⟨f, xs, r⟩ A1 n1 c1 ⟨kd, ag, yr, sm, ld⟩ _ HBT2.out HPFi.out).mono ?_; rw [hp]; rintro e w4 ⟨rfl, hb4⟩; have HX := Lib.hid (HX2.out.past hb4)))
      have HT8 := Lib.hid (Nx.refl HX.out.nx.src)
      have hT := HT8.out
      go_upto_region 16 with (first | ((go_at_call 32; refine (spec_l01Next_any K hK g _ _ _ (Nx.refl (Nx.src (by first | exact hT | exact hT.alloc _ | exact (hT.alloc _).alloc _ | exact hT.drew)))).mono ?_; rintro e w3 ⟨x, rfl, ⟨hx0, hx1⟩, hN⟩; have hT := Nx.trans (by first | exact hT | exact hT.alloc _ | exact (hT.alloc _).alloc _ | exact hT.drew) hN); have E3 := HX.out.nxx hT; have e2 := E3.p.cell 2; have z2 := E3.p.frozen 2) | ((go_at_call 33; refine (spec_l01Pick_new K hK g _ _ _ _ (by first | exact hT | exact hT.alloc _ | exact (hT.alloc _).alloc _ | exact hT.drew) (by rfl) (by decide) (by decide) (by rfl)).mono ?_; rintro e w3 ⟨x, rfl, hx, hT⟩; simp only [OneOf, Value.int.injEq, true_and, or_false] at hx); have E3 := HX.out.nxx hT; have e4 := E3.p.cell 4; have z4 := E3.p.frozen 4))
      · have E9 : E10 K g w (w3.setCell ⟨Gp, 4, none⟩ (.int .i64 x)) Wa.heap.size Gt Gp Gb f A1 n1 c1 r ⟨kd, ag, yr, sm, x⟩ := E3.put 4 (.int .i64 x) ⟨kd, ag, yr, sm, x⟩ (by simp)
        have hxx : -1 ≤ x ∧ x ≤ 1001 := by omega
        clear hx hT e4 z4 E3 e2 z2
        generalize w3.setCell ⟨Gp, 4, none⟩ (.int .i64 x) = W9 at E9 ⊢
        have HPF := Lib.hid (show PolSmall ⟨kd, ag, yr, sm, x⟩ from ⟨by show -2000000000 ≤ kd ∧ kd ≤ 2000000000; omega, by show -2000000000 ≤ ag ∧ ag ≤ 2000000000; omega, by show -2000000000 ≤ yr ∧ yr ≤ 2000000000; omega, by show -2000000000 ≤ sm ∧ sm ≤ 2000000000; omega, by show -2000000000 ≤ x ∧ x ≤ 2000000000; omega⟩)
        have HE9 := Lib.hid E9
        have hgw9 := E9.gw
        have hwB := E9.wB
        have q3 := E9.Bt
        have q4 := E9.tp
        have q5 := E9.pb
        clear E9
        have b0 : W9.cell? ⟨Gb, 0, none⟩ = some (.int .i64 f) := HE9.out.b.cell 0
        have b1 : W9.cell? ⟨Gb, 1, none⟩ = some (.slice A1 n1 c1) := HE9.out.b.cell 1
        have b2 : W9.cell? ⟨Gb, 2, none⟩ = some (.int .i64 r) := HE9.out.b.cell 2
        have p0 : W9.cell? ⟨Gp, 0, none⟩ = some (.int .i64 (kd)) := HE9.out.p.cell 0
        have p1 : W9.cell? ⟨Gp, 1, none⟩ = some (.int .i64 (ag)) := HE9.out.p.cell 1
        have p2 : W9.cell? ⟨Gp, 2, none⟩ = some (.int .i64 (yr)) := HE9.out.p.cell 2
        have p3 : W9.cell? ⟨Gp, 3, none⟩ = some (.int .i64 (sm)) := HE9.out.p.cell 3
        have p4 : W9.cell? ⟨Gp, 4, none⟩ = some (.int .i64 (x)) := HE9.out.p.cell 4
        have zc0 : W9.cell? ⟨w.heap.size, 0, none⟩ = some (.int .i64 0) := HE9.out.zb.cell 0
        have zf0 : W9.frozen? ⟨w.heap.size, 0, none⟩ = false := HE9.out.zb.frozen 0
        have zc1 : W9.cell? ⟨w.heap.size, 1, none⟩ = some (.slice none 0 0) := HE9.out.zb.cell 1
        have zf1 : W9.frozen? ⟨w.heap.size, 1, none⟩ = false := HE9.out.zb.frozen 1
        have zc2 : W9.cell? ⟨w.heap.size, 2, none⟩ = some (.int .i64 0) := HE9.out.zb.cell 2
        have zf2 : W9.frozen? ⟨w.heap.size, 2, none⟩ = false := HE9.out.zb.frozen 2
        have yc0 : W9.cell? ⟨w.heap.size + 1, 0, none⟩ = some (.int .i64 0) := HE9.out.zp.cell 0
        have yf0 : W9.frozen? ⟨w.heap.size + 1, 0, none⟩ = false := HE9.out.zp.frozen 0
        have yc1 : W9.cell? ⟨w.heap.size + 1, 1, none⟩ = some (.int .i64 0) := HE9.out.zp.cell 1
        have yf1 : W9.frozen? ⟨w.heap.size + 1, 1, none⟩ = false := HE9.out.zp.frozen 1
        have yc2 : W9.cell? ⟨w.heap.size + 1, 2, none⟩ = some (.int .i64 0) := HE9.out.zp.cell 2
        have yf2 : W9.frozen? ⟨w.heap.size + 1, 2, none⟩ = false := HE9.out.zp.frozen 2
        have yc3 : W9.cell? ⟨w.heap.size + 1, 3, none⟩ = some (.int .i64 0) := HE9.out.zp.cell 3
        have yf3 : W9.frozen? ⟨w.heap.size + 1, 3, none⟩ = false := HE9.out.zp.frozen 3
        have yc4 : W9.cell? ⟨w.heap.size + 1, 4, none⟩ = some (.int .i64 0) := HE9.out.zp.cell 4
        have yf4 : W9.frozen? ⟨w.heap.size + 1, 4, none⟩ = false := HE9.out.zp.frozen 4
        have m1 : Gp ≠ w.heap.size := by omega
        have m2 : Gb ≠ w.heap.size := by omega
        have m3 : Gp ≠ w.heap.size + 1 := by omega
        have m4 : Gb ≠ w.heap.size + 1 := by omega
        go_region
        obtain ⟨hz1, hz2, hN8, hE8⟩ := HE9.out.out8
        generalize (((((((((W9).setCell ⟨w.heap.size, 0, none⟩ (.int .i64 f)).setCell ⟨w.heap.size, 1, none⟩ (.slice A1 n1 c1)).setCell ⟨w.heap.size, 2, none⟩ (.int .i64 r)).setCell ⟨w.heap.size + 1, 0, none⟩ (.int .i64 (kd))).setCell ⟨w.heap.size + 1, 1, none⟩ (.int .i64 (ag))).setCell ⟨w.heap.size + 1, 2, none⟩ (.int .i64 (yr))).setCell ⟨w.heap.size + 1, 3, none⟩ (.int .i64 (sm))).setCell ⟨w.heap.size + 1, 4, none⟩ (.int .i64 (x))).drew = WF at hz1 hz2 hN8 hE8 ⊢
        have r0 : WF.cell? ⟨w.heap.size, 0, none⟩ = some (.int .i64 f) := hz1.cell 0
        have r1 : WF.cell? ⟨w.heap.size, 1, none⟩ = some (.slice A1 n1 c1) := hz1.cell 1
        have r2 : WF.cell? ⟨w.heap.size, 2, none⟩ = some (.int .i64 r) := hz1.cell 2
        have s0 : WF.cell? ⟨w.heap.size + 1, 0, none⟩ = some (.int .i64 (kd)) := hz2.cell 0
        have s1 : WF.cell? ⟨w.heap.size + 1, 1, none⟩ = some (.int .i64 (ag)) := hz2.cell 1
        have s2 : WF.cell? ⟨w.heap.size + 1, 2, none⟩ = some (.int .i64 (yr)) := hz2.cell 2
        have s3 : WF.cell? ⟨w.heap.size + 1, 3, none⟩ = some (.int .i64 (sm)) := hz2.cell 3
        have s4 : WF.cell? ⟨w.heap.size + 1, 4, none⟩ = some (.int .i64 (x)) := hz2.cell 4
        go_wp2
        refine bodyPost_ret (v := .tuple #[.agg #[.int .i64 f, .slice A1 n1 c1, .int .i64 r], .agg #[.int .i64 kd, .int .i64 ag, .int .i64 yr, .int .i64 sm, .int .i64 x]]) (by simp [results, Tryz.results53, go_sem, r0, r1, r2, s0, s1, s2, s3, s4]) rfl ?_
        obtain ⟨xs, hRx, hfx⟩ := hE8
        exact ⟨⟨f, xs, r⟩, A1, n1, c1, ⟨kd, ag, yr, sm, x⟩, rfl, hRx.more (by have := HT0.out.size; omega), hn1, hfx, hf1, hr, HPF.out, HT0.out.trans hN8⟩
      · have E9 : E10 K g w (w3.setCell ⟨Gp, 2, none⟩ (.int .i64 (yr + 20))) Wa.heap.size Gt Gp Gb f A1 n1 c1 r ⟨kd, ag, yr + 20, sm, ld⟩ := E3.put 2 (.int .i64 (yr + 20)) ⟨kd, ag, yr + 20, sm, ld⟩ (by simp)
        clear hT E3 e2 z2
        generalize w3.setCell ⟨Gp, 2, none⟩ (.int .i64 (yr + 20)) = W9 at E9 ⊢
        have HPF := Lib.hid (show PolSmall ⟨kd, ag, (yr + 20), sm, ld⟩ from ⟨by show -2000000000 ≤ kd ∧ kd ≤ 2000000000; omega, by show -2000000000 ≤ ag ∧ ag ≤ 2000000000; omega, by show -2000000000 ≤ (yr + 20) ∧ (yr + 20) ≤ 2000000000; omega, by show -2000000000 ≤ sm ∧ sm ≤ 2000000000; omega, by show -2000000000 ≤ ld ∧ ld ≤ 2000000000; omega⟩)
        have HE9 := Lib.hid E9
        have hgw9 := E9.gw
        have hwB := E9.wB
        have q3 := E9.Bt
        have q4 := E9.tp
        have q5 := E9.pb
        clear E9
        have b0 : W9.cell? ⟨Gb, 0, none⟩ = some (.int .i64 f) := HE9.out.b.cell 0
        have b1 : W9.cell? ⟨Gb, 1, none⟩ = some (.slice A1 n1 c1) := HE9.out.b.cell 1
        have b2 : W9.cell? ⟨Gb, 2, none⟩ = some (.int .i64 r) := HE9.out.b.cell 2
        have p0 : W9.cell? ⟨Gp, 0, none⟩ = some (.int .i64 (kd)) := HE9.out.p.cell 0
        have p1 : W9.cell? ⟨Gp, 1, none⟩ = some (.int .i64 (ag)) := HE9.out.p.cell 1
        have p2 : W9.cell? ⟨Gp, 2, none⟩ = some (.int .i64 ((yr + 20))) := HE9.out.p.cell 2
        have p3 : W9.cell? ⟨Gp, 3, none⟩ = some (.int .i64 (sm)) := HE9.out.p.cell 3
        have p4 : W9.cell? ⟨Gp, 4, none⟩ = some (.int .i64 (ld)) := HE9.out.p.cell 4
        have zc0 : W9.cell? ⟨w.heap.size, 0, none⟩ = some (.int .i64 0) := HE9.out.zb.cell 0
        have zf0 : W9.frozen? ⟨w.heap.size, 0, none⟩ = false := HE9.out.zb.frozen 0
        have zc1 : W9.cell? ⟨w.heap.size, 1, none⟩ = some (.slice none 0 0) := HE9.out.zb.cell 1
        have zf1 : W9.frozen? ⟨w.heap.size, 1, none⟩ = false := HE9.out.zb.frozen 1
        have zc2 : W9.cell? ⟨w.heap.size, 2, none⟩ = some (.int .i64 0) := HE9.out.zb.cell 2
        have zf2 : W9.frozen? ⟨w.heap.size, 2, none⟩ = false := HE9.out.zb.frozen 2
        have yc0 : W9.cell? ⟨w.heap.size + 1, 0, none⟩ = some (.int .i64 0) := HE9.out.zp.cell 0
        have yf0 : W9.frozen? ⟨w.heap.size + 1, 0, none⟩ = false := HE9.out.zp.frozen 0
        have yc1 : W9.cell? ⟨w.heap.size + 1, 1, none⟩ = some (.int .i64 0) := HE9.out.zp.cell 1
        have yf1 : W9.frozen? ⟨w.heap.size + 1, 1, none⟩ = false := HE9.out.zp.frozen 1
        have yc2 : W9.cell? ⟨w.heap.size + 1, 2, none⟩ = some (.int .i64 0) := HE9.out.zp.cell 2
        have yf2 : W9.frozen? ⟨w.heap.size + 1, 2, none⟩ = false := HE9.out.zp.frozen 2
        have yc3 : W9.cell? ⟨w.heap.size + 1, 3, none⟩ = some (.int .i64 0) := HE9.out.zp.cell 3
        have yf3 : W9.frozen? ⟨w.heap.size + 1, 3, none⟩ = false := HE9.out.zp.frozen 3
        have yc4 : W9.cell? ⟨w.heap.size + 1, 4, none⟩ = some (.int .i64 0) := HE9.out.zp.cell 4
        have yf4 : W9.frozen? ⟨w.heap.size + 1, 4, none⟩ = false := HE9.out.zp.frozen 4
        have m1 : Gp ≠ w.heap.size := by omega
        have m2 : Gb ≠ w.heap.size := by omega
        have m3 : Gp ≠ w.heap.size + 1 := by omega
        have m4 : Gb ≠ w.heap.size + 1 := by omega
        go_region
        obtain ⟨hz1, hz2, hN8, hE8⟩ := HE9.out.out8
        generalize (((((((((W9).setCell ⟨w.heap.size, 0, none⟩ (.int .i64 f)).setCell ⟨w.heap.size, 1, none⟩ (.slice A1 n1 c1)).setCell ⟨w.heap.size, 2, none⟩ (.int .i64 r)).setCell ⟨w.heap.size + 1, 0, none⟩ (.int .i64 (kd))).setCell ⟨w.heap.size + 1, 1, none⟩ (.int .i64 (ag))).setCell ⟨w.heap.size + 1, 2, none⟩ (.int .i64 ((yr + 20)))).setCell ⟨w.heap.size + 1, 3, none⟩ (.int .i64 (sm))).setCell ⟨w.heap.size + 1, 4, none⟩ (.int .i64 (ld))).drew = WF at hz1 hz2 hN8 hE8 ⊢
        have r0 : WF.cell? ⟨w.heap.size, 0, none⟩ = some (.int .i64 f) := hz1.cell 0
        have r1 : WF.cell? ⟨w.heap.size, 1, none⟩ = some (.slice A1 n1 c1) := hz1.cell 1
        have r2 : WF.cell? ⟨w.heap.size, 2, none⟩ = some (.int .i64 r) := hz1.cell 2
        have s0 : WF.cell? ⟨w.heap.size + 1, 0, none⟩ = some (.int .i64 (kd)) := hz2.cell 0
        have s1 : WF.cell? ⟨w.heap.size + 1, 1, none⟩ = some (.int .i64 (ag)) := hz2.cell 1
        have s2 : WF.cell? ⟨w.heap.size + 1, 2, none⟩ = some (.int .i64 ((yr + 20))) := hz2.cell 2
        have s3 : WF.cell? ⟨w.heap.size + 1, 3, none⟩ = some (.int .i64 (sm)) := hz2.cell 3
        have s4 : WF.cell? ⟨w.heap.size + 1, 4, none⟩ = some (.int .i64 (ld)) := hz2.cell 4
        go_wp2
        refine bodyPost_ret (v := .tuple #[.agg #[.int .i64 f, .slice A1 n1 c1, .int .i64 r], .agg #[.int .i64 kd, .int .i64 ag, .int .i64 (yr + 20), .int .i64 sm, .int .i64 ld]]) (by simp [results, Tryz.results53, go_sem, r0, r1, r2, s0, s1, s2, s3, s4]) rfl ?_
        obtain ⟨xs, hRx, hfx⟩ := hE8
        exact ⟨⟨f, xs, r⟩, A1, n1, c1, ⟨kd, ag, (yr + 20), sm, ld⟩, rfl, hRx.more (by have := HT0.out.size; omega), hn1, hfx, hf1, hr, HPF.out, HT0.out.trans hN8⟩
      · clear hT e2 z2
        generalize w3 = W9 at E3 ⊢
        have E9 := E3
        clear E3
        have HPF := Lib.hid (show PolSmall ⟨kd, ag, yr, sm, ld⟩ from ⟨by show -2000000000 ≤ kd ∧ kd ≤ 2000000000; omega, by show -2000000000 ≤ ag ∧ ag ≤ 2000000000; omega, by show -2000000000 ≤ yr ∧ yr ≤ 2000000000; omega, by show -2000000000 ≤ sm ∧ sm ≤ 2000000000; omega, by show -2000000000 ≤ ld ∧ ld ≤ 2000000000; omega⟩)
        have HE9 := Lib.hid E9
        have hgw9 := E9.gw
        have hwB := E9.wB
        have q3 := E9.Bt
        have q4 := E9.tp
        have q5 := E9.pb
        clear E9
        have b0 : W9.cell? ⟨Gb, 0, none⟩ = some (.int .i64 f) := HE9.out.b.cell 0
        have b1 : W9.cell? ⟨Gb, 1, none⟩ = some (.slice A1 n1 c1) := HE9.out.b.cell 1
        have b2 : W9.cell? ⟨Gb, 2, none⟩ = some (.int .i64 r) := HE9.out.b.cell 2
        have p0 : W9.cell? ⟨Gp, 0, none⟩ = some (.int .i64 (kd)) := HE9.out.p.cell 0
        have p1 : W9.cell? ⟨Gp, 1, none⟩ = some (.int .i64 (ag)) := HE9.out.p.cell 1
        have p2 : W9.cell? ⟨Gp, 2, none⟩ = some (.int .i64 (yr)) := HE9.out.p.cell 2
        have p3 : W9.cell? ⟨Gp, 3, none⟩ = some (.int .i64 (sm)) := HE9.out.p.cell 3
        have p4 : W9.cell? ⟨Gp, 4, none⟩ = some (.int .i64 (ld)) := HE9.out.p.cell 4
        have zc0 : W9.cell? ⟨w.heap.size, 0, none⟩ = some (.int .i64 0) := HE9.out.zb.cell 0
        have zf0 : W9.frozen? ⟨w.heap.size, 0, none⟩ = false := HE9.out.zb.frozen 0
        have zc1 : W9.cell? ⟨w.heap.size, 1, none⟩ = some (.slice none 0 0) := HE9.out.zb.cell 1
        have zf1 : W9.frozen? ⟨w.heap.size, 1, none⟩ = false := HE9.out.zb.frozen 1
        have zc2 : W9.cell? ⟨w.heap.size, 2, none⟩ = some (.int .i64 0) := HE9.out.zb.cell 2
        have zf2 : W9.frozen? ⟨w.heap.size, 2, none⟩ = false := HE9.out.zb.frozen 2
        have yc0 : W9.cell? ⟨w.heap.size + 1, 0, none⟩ = some (.int .i64 0) := HE9.out.zp.cell 0
        have yf0 : W9.frozen? ⟨w.heap.size + 1, 0, none⟩ = false := HE9.out.zp.frozen 0
        have yc1 : W9.cell? ⟨w.heap.size + 1, 1, none⟩ = some (.int .i64 0) := HE9.out.zp.cell 1
        have yf1 : W9.frozen? ⟨w.heap.size + 1, 1, none⟩ = false := HE9.out.zp.frozen 1
        have yc2 : W9.cell? ⟨w.heap.size + 1, 2, none⟩ = some (.int .i64 0) := HE9.out.zp.cell 2
        have yf2 : W9.frozen? ⟨w.heap.size + 1, 2, none⟩ = false := HE9.out.zp.frozen 2
        have yc3 : W9.cell? ⟨w.heap.size + 1, 3, none⟩ = some (.int .i64 0) := HE9.out.zp.cell 3
        have yf3 : W9.frozen? ⟨w.heap.size + 1, 3, none⟩ = false := HE9.out.zp.frozen 3
        have yc4 : W9.cell? ⟨w.heap.size + 1, 4, none⟩ = some (.int .i64 0) := HE9.out.zp.cell 4
        have yf4 : W9.frozen? ⟨w.heap.size + 1, 4, none⟩ = false := HE9.out.zp.frozen 4
        have m1 : Gp ≠ w.heap.size := by omega
        have m2 : Gb ≠ w.heap.size := by omega
        have m3 : Gp ≠ w.heap.size + 1 := by omega
        have m4 : Gb ≠ w.heap.size + 1 := by omega
        go_region
        obtain ⟨hz1, hz2, hN8, hE8⟩ := HE9.out.out8
        generalize (((((((((W9).setCell ⟨w.heap.size, 0, none⟩ (.int .i64 f)).setCell ⟨w.heap.size, 1, none⟩ (.slice A1 n1 c1)).setCell ⟨w.heap.size, 2, none⟩ (.int .i64 r)).setCell ⟨w.heap.size + 1, 0, none⟩ (.int .i64 (kd))).setCell ⟨w.heap.size + 1, 1, none⟩ (.int .i64 (ag))).setCell ⟨w.heap.size + 1, 2, none⟩ (.int .i64 (yr))).setCell ⟨w.heap.size + 1, 3, none⟩ (.int .i64 (sm))).setCell ⟨w.heap.size + 1, 4, none⟩ (.int .i64 (ld))).drew = WF at hz1 hz2 hN8 hE8 ⊢
        have r0 : WF.cell? ⟨w.heap.size, 0, none⟩ = some (.int .i64 f) := hz1.cell 0
        have r1 : WF.cell? ⟨w.heap.size, 1, none⟩ = some (.slice A1 n1 c1) := hz1.cell 1
        have r2 : WF.cell? ⟨w.heap.size, 2, none⟩ = some (.int .i64 r) := hz1.cell 2
        have s0 : WF.cell? ⟨w.heap.size + 1, 0, none⟩ = some (.int .i64 (kd)) := hz2.cell 0
        have s1 : WF.cell? ⟨w.heap.size + 1, 1, none⟩ = some (.int .i64 (ag)) := hz2.cell 1
        have s2 : WF.cell? ⟨w.heap.size + 1, 2, none⟩ = some (.int .i64 (yr)) := hz2.cell 2
        have s3 : WF.cell? ⟨w.heap.size + 1, 3, none⟩ = some (.int .i64 (sm)) := hz2.cell 3
        have s4 : WF.cell? ⟨w.heap.size + 1, 4, none⟩ = some (.int .i64 (ld)) := hz2.cell 4
        go_wp2
        refine bodyPost_ret (v := .tuple #[.agg #[.int .i64 f, .slice A1 n1 c1, .int .i64 r], .agg #[.int .i64 kd, .int .i64 ag, .int .i64 yr, .int .i64 sm, .int .i64 ld]]) (by simp [results, Tryz.results53, go_sem, r0, r1, r2, s0, s1, s2, s3, s4]) rfl ?_
        obtain ⟨xs, hRx, hfx⟩ := hE8
        exact ⟨⟨f, xs, r⟩, A1, n1, c1, ⟨kd, ag, yr, sm, ld⟩, rfl, hRx.more (by have := HT0.out.size; omega), hn1, hfx, hf1, hr, HPF.out, HT0.out.trans hN8⟩
    go_upto_region 7 with (first | (go_at_call 87; refine (spec_IsBasis_any ⟨f, xs, r⟩ A1 n1 c1 _ HBT.out).mono ?_; rw [hb]; rintro e w2 ⟨rfl, hb2⟩; have HX2 := Lib.hid (HX.out.past hb2); have b0 : w2.cell? ⟨Gb, 0, none⟩ = some (.int .i64 f) := HX2.out.b.cell 0; have b1 : w2.cell? ⟨Gb, 1, none⟩ = some (.slice A1 n1 c1) := HX2.out.b.cell 1; have b2 : w2.cell? ⟨Gb, 2, none⟩ = some (.int .i64 r) := HX2.out.b.cell 2; have p0 : w2.cell? ⟨Gp, 0, none⟩ = some (.int .i64 kd) := HX2.out.p.cell 0; have p1 : w2.cell? ⟨Gp, 1, none⟩ = some (.int .i64 ag) := HX2.out.p.cell 1; have p2 : w2.cell? ⟨Gp, 2, none⟩ = some (.int .i64 yr) := HX2.out.p.cell 2; have p3 : w2.cell? ⟨Gp, 3, none⟩ = some (.int .i64 sm) := HX2.out.p.cell 3; have p4 : w2.cell? ⟨Gp, 4, none⟩ = some (.int .i64 ld) := HX2.out.p.cell 4; have HBT2 := Lib.hid (HBT.out.past hb2)) | (go_at_call 56; refine (spec_IsPolicy_any ⟨f, xs, r⟩ A1 n1 c1 ⟨kd, ag, yr, sm, ld⟩ _ HBT2.out HPFi.out).mono ?_; rw [hp]; rintro e w4 ⟨rfl, hb4⟩; have HX := Lib.hid (HX2.out.past hb4)))
    have HNR := Lib.hid (Nx.refl HX.out.nx.src)
    have HD := Lib.hid HNR.out.drew
    have HS := Lib.hid (fun (w' : World) (h : Nx K g w4 w') => (show w'.cell? ⟨Gt, 0, none⟩ = some (.int .i64 f) ∧ w'.cell? ⟨Gt, 1, none⟩ = some (.slice A1 n1 c1) from ⟨(HX.out.nxx h).t.cell 0, (HX.out.nxx h).t.cell 1⟩))
    have HS7 := Lib.hid (fun (w' : World) (v : Value) (h : Nx K g w4 w') => (show (w'.setCell ⟨Gp, 1, none⟩ v).cell? ⟨Gt, 0, none⟩ = some (.int .i64 f) ∧ (w'.setCell ⟨Gp, 1, none⟩ v).cell? ⟨Gt, 1, none⟩ = some (.slice A1 n1 c1) from ⟨((HX.out.nxx h).t.far (p := ⟨Gp, 1, none⟩) (by have := HX.out.tp; show Gt ≠ Gp; omega) v).cell 0, ((HX.out.nxx h).t.far (p := ⟨Gp, 1, none⟩) (by have := HX.out.tp; show Gt ≠ Gp; omega) v).cell 1⟩))
    go_region_held3 (fun w' => w'.cell? ⟨Gt, 0, none⟩ = some (.int .i64 f) ∧ w'.cell? ⟨Gt, 1, none⟩ = some (.slice A1 n1 c1)) (first | exact HS7.out _ _ HP.out | exact HS.out _ HP.out | exact HS.out _ HD.out | exact HS.out _ HNR.out) (first | (go_at_call 32; refine (spec_l01Next_any K hK g w4 _ _ HD.out).mono ?_; rintro e w5 ⟨x5, rfl, ⟨hx50, hx51⟩, hT5⟩; have HP := Lib.hid hT5; have E5 := HX.out.nxx hT5; have p1 : w5.cell? ⟨Gp, 1, none⟩ = some (.int .i64 ag) := E5.p.cell 1; have f1 : w5.frozen? ⟨Gp, 1, none⟩ = false := E5.p.frozen 1))
    have hw5 : IntKind.i64.wrap ((n1 : Int) - 1) = (n1 : Int) - 1 := IntWalk.i64_in _ (by omega)
    have hx5b : x5 ≤ 100 := by first | omega | (rw [hw5] at hx51; omega)
    rw [show IntKind.i64.wrap (f + x5) = f + x5 from IntWalk.i64_in _ (by omega)]
    have E7 : E10 K g w (w5.setCell ⟨Gp, 1, none⟩ (.int .i64 (f + x5))) Wa.heap.size Gt Gp Gb f A1 n1 c1 r ⟨kd, f + x5, yr, sm, ld⟩ := E5.put 1 (.int .i64 (f + x5)) ⟨kd, f + x5, yr, sm, ld⟩ (by simp)
    obtain ⟨ag7, hag7⟩ : ∃ ag7, f + x5 = ag7 := ⟨_, rfl⟩
    have hag70 : -1 ≤ ag7 ∧ ag7 ≤ 300 := by omega
    rw [hag7] at E7 ⊢
    obtain ⟨ag70, ag71⟩ := hag70
    generalize w5.setCell ⟨Gp, 1, none⟩ (.int .i64 ag7) = W7 at E7 ⊢
    clear hag7 E5 p1 f1 hw5 HP hT5 HS HS7 HD HNR hx50 hx51 hx5b
    have HX7 := Lib.hid E7
    clear E7
    go_upto_region 8 with fail
    have HN7 := Lib.hid (Nx.refl HX7.out.nx.src)
    have HD7 := Lib.hid HN7.out.drew
    have t0 : W7.cell? ⟨Gt, 0, none⟩ = some (.int .i64 f) := HX7.out.t.cell 0
    have t1 : W7.cell? ⟨Gt, 1, none⟩ = some (.slice A1 n1 c1) := HX7.out.t.cell 1
    have p1 : W7.cell? ⟨Gp, 1, none⟩ = some (.int .i64 ag7) := HX7.out.p.cell 1
    have p2 : W7.cell? ⟨Gp, 2, none⟩ = some (.int .i64 yr) := HX7.out.p.cell 2
    go_region_law (first | (go_simp; go_at_call 66; refine (l03End_draw f A1 n1 c1 _ (by omega) (by omega)).mono ?_; rintro e w8 ⟨rfl, hb8⟩; have HX8 := Lib.hid ((HX7.out.past (Below.refl _ _).drew).past hb8); have t0 : w8.cell? ⟨Gt, 0, none⟩ = some (.int .i64 f) := HX8.out.t.cell 0; have t1 : w8.cell? ⟨Gt, 1, none⟩ = some (.slice A1 n1 c1) := HX8.out.t.cell 1; have p1 : w8.cell? ⟨Gp, 1, none⟩ = some (.int .i64 ag7) := HX8.out.p.cell 1; have p2 : w8.cell? ⟨Gp, 2, none⟩ = some (.int .i64 yr) := HX8.out.p.cell 2) | (go_simp; go_at_call 32; refine (spec_l01Next_any K hK g w8 _ _ (Nx.refl HX8.out.nx.src)).mono ?_; rintro e w9 ⟨x9, rfl, ⟨hx90, hx91⟩, hT9⟩; have E9 := HX8.out.nxx hT9; have t0 : w9.cell? ⟨Gt, 0, none⟩ = some (.int .i64 f) := E9.t.cell 0; have t1 : w9.cell? ⟨Gt, 1, none⟩ = some (.slice A1 n1 c1) := E9.t.cell 1; have p1 : w9.cell? ⟨Gp, 1, none⟩ = some (.int .i64 ag7) := E9.p.cell 1; have p2 : w9.cell? ⟨Gp, 2, none⟩ = some (.int .i64 yr) := E9.p.cell 2; have f2 : w9.frozen? ⟨Gp, 2, none⟩ = false := E9.p.frozen 2))
    all_goals
      have hx9b : x9 ≤ 1000 := by
        have h9 : IntKind.i64.wrap (f + (n1 : Int) - 1 - ag7) = f + (n1 : Int) - 1 - ag7 := IntWalk.i64_in _ (by omega)
        rw [h9] at hx91; omega
      rw [show IntKind.i64.wrap (1 + x9) = 1 + x9 from IntWalk.i64_in _ (by omega)]
      obtain ⟨yr9, hyr9⟩ : ∃ yr9, min yr (1 + x9) = yr9 := ⟨_, rfl⟩
      have hyb : -5000 ≤ yr9 ∧ yr9 ≤ 5000 := by omega
      rw [hyr9]
      have E8 : E10 K g w (w9.setCell ⟨Gp, 2, none⟩ (.int .i64 yr9)) Wa.heap.size Gt Gp Gb f A1 n1 c1 r ⟨kd, ag7, yr9, sm, ld⟩ := E9.put 2 (.int .i64 yr9) ⟨kd, ag7, yr9, sm, ld⟩ (by simp)
      generalize w9.setCell ⟨Gp, 2, none⟩ (.int .i64 yr9) = W9 at E8 ⊢
      have HX9 := Lib.hid E8
      clear hyr9 hx9b hx90 hx91 E9 E8 HX8 hb8 hT9 HX7 HN7 HD7 p1 p2 f2 t0 t1
      obtain ⟨yb0, yb1⟩ := hyb
      have q0 : W9.cell? ⟨Gp, 0, none⟩ = some (.int .i64 kd) := HX9.out.p.cell 0
      have q2 : W9.cell? ⟨Gp, 2, none⟩ = some (.int .i64 yr9) := HX9.out.p.cell 2
      have z2 : W9.frozen? ⟨Gp, 2, none⟩ = false := HX9.out.p.frozen 2
      cases hk0 : (kd == 0)
      · go_wp2_with fail
        go_roundw
        case rel => exact ⟨k + 1, ag7, yr9, by omega, by go_num, ⟨by omega, by omega⟩, ⟨yb0, yb1⟩, HX9⟩
        case measure => simp [intOf]; omega
      · go_wp2_with fail
        go_roundw
        case rel => exact ⟨k + 1, ag7, 0, by omega, by go_num, ⟨by omega, by omega⟩, ⟨by omega, by omega⟩, Lib.hid (HX9.out.put 2 (.int .i64 0) ⟨kd, ag7, 0, sm, ld⟩ (by simp))⟩
        case measure => simp [intOf]; omega
end Go.Proofs.YtkdfdbcpbgganaaGreatDoor
end
