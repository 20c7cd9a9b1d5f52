/- Parts of a proof, one after another: DrawP6. No condition. -/
import Derived.Test.YtbjdbpdgacfcpaaGreatK15
import Derived.Deep.DeepCutAuto
import Derived.Deep.LoopGhost
import Derived.Deep.CutBlock
/- Draws of a basis and a portfolio. -/
section
namespace Go.Proofs.YtbjdbpdgacfcpaaGreat
open Go.RowKit Go.BigFrame

/-- numbers that fit, with room -/
def PolWide (p : Policy) : Prop := (-3000000000 ≤ p.kind ∧ p.kind ≤ 3000000000) ∧ (-3000000000 ≤ p.age ∧ p.age ≤ 3000000000) ∧ (-3000000000 ≤ p.years ∧ p.years ≤ 3000000000) ∧ (-3000000000 ≤ p.sum ∧ p.sum ≤ 3000000000) ∧ (-3000000000 ≤ p.load ∧ p.load ≤ 3000000000)
theorem PolWide.fits {p : Policy} (h : PolWide p) : p.fits := by
  unfold PolWide at h
  unfold Policy.fits In64
  omega
theorem PolSmall.wide {p : Policy} (h : PolSmall p) : PolWide p := by
  unfold PolSmall at h
  unfold PolWide
  omega
abbrev polCells (p : Policy) : Array Value := #[.int .i64 p.kind, .int .i64 p.age, .int .i64 p.years, .int .i64 p.sum, .int .i64 p.load]
/-- a drawn basis: what is known of it -/
structure BasSmall (b : Bas) (n : Nat) : Prop where
  len : 1 ≤ n ∧ n ≤ 30
  lives : ∀ x ∈ b.lives, 0 ≤ x ∧ x ≤ 1000001
  first : -1 ≤ b.first ∧ b.first ≤ 101
  rate : -1 ≤ b.rate ∧ b.rate ≤ 201
/-- the boxes of l17Draw -/
structure E17 (K : Code) (g : Nat) (w W : World) (Gb Gp : Nat) (b : Bas) (A : Option Addr) (n c : Nat) (p : Policy) : Prop where
  zb : Blk W w.heap.size 28 #[.int .i64 0, .slice none 0 0, .int .i64 0]
  bas : Blk W Gb 28 #[.int .i64 b.first, .slice A n c, .int .i64 b.rate]
  pol : Blk W Gp 88 (polCells p)
  liv : Res w.heap.size W 2 1 A n c (intRows b.lives)
  nx : Nx K g w W
  gw : g < w.heap.size
  wb : w.heap.size < Gb
  bp : Gb < Gp
  aG : ∀ a, A = some ⟨a, 0, none⟩ → a < Gb ∧ a ≠ w.heap.size
namespace E17
variable {K : Code} {g : Nat} {w W W' : World} {Gb Gp : Nat} {b : Bas} {A : Option Addr} {n c : Nat} {p : Policy}
theorem nxx (h : E17 K g w W Gb Gp b A n c p) (hN : Nx K g W W') : E17 K g w W' Gb Gp b A n c p := by
  have h1 := h.gw; have h2 := h.wb; have h3 := h.bp
  exact { h with zb := h.zb.nx hN (by omega), bas := h.bas.nx hN (by omega), pol := h.pol.nx hN (by omega), liv := h.liv.nx hN h1, nx := h.nx.trans hN }
theorem past (h : E17 K g w W Gb Gp b A n c p) (hb : Below W.heap.size W W') : E17 K g w W' Gb Gp b A n c p :=
  { h with zb := h.zb.below' hb, bas := h.bas.below' hb, pol := h.pol.below' hb, liv := h.liv.past hb, nx := h.nx.past hb }
/-- a store beyond the boxes -/
theorem far (h : E17 K g w W Gb Gp b A n c p) {G : Nat} (hG : Gp < G) (i : Nat) (v : Value) : E17 K g w (W.setCell ⟨G, i, none⟩ v) Gb Gp b A n c p := by
  have h1 := h.gw; have h2 := h.wb; have h3 := h.bp
  exact { h with
    zb := h.zb.far (by show w.heap.size ≠ G; omega) v, bas := h.bas.far (by show Gb ≠ G; omega) v, pol := h.pol.far (by show Gp ≠ G; omega) v
    liv := h.liv.keep fun a ha => Below.heap_setCell _ _ _ _ (by have := h.aG a ha; show a ≠ G; omega)
    nx := h.nx.kept h1 (Nat.le_refl _) ((Below.refl _ _).setCell (p := ⟨G, i, none⟩) (by show w.heap.size ≤ G; omega) v) }
/-- a block that is not older than w, and none of the boxes, may turn -/
theorem kept (h : E17 K g w W Gb Gp b A n c p) (hb : Below w.heap.size W W') (hk : ∀ a, a = w.heap.size ∨ a = Gb ∨ a = Gp ∨ A = some ⟨a, 0, none⟩ → W'.heap[a]? = W.heap[a]?) : E17 K g w W' Gb Gp b A n c p :=
  { h with zb := (hk _ (.inl rfl)).trans h.zb, bas := (hk _ (.inr (.inl rfl))).trans h.bas, pol := (hk _ (.inr (.inr (.inl rfl)))).trans h.pol, liv := h.liv.keep fun a ha => hk a (.inr (.inr (.inr ha))), nx := h.nx.kept h.gw (Nat.le_refl _) hb }
theorem basT (h : E17 K g w W Gb Gp b A n c p) (hs : BasSmall b n) : BasT W A n c b := by
  have hl : b.lives.length = n := by have := h.liv.len; rwa [intRows_length] at this
  refine BasT.of_res h.liv (by have := hs.len; omega) (fun x hx => ?_) ?_ ?_
  · have := hs.lives x hx; unfold In64; omega
  · have := hs.first; unfold In64; omega
  · have := hs.rate; unfold In64; omega
theorem src (h : E17 K g w W Gb Gp b A n c p) : Src K g W := h.nx.src
end E17
theorem in64_lt {x : Int} (h : -1000000000000000 ≤ x ∧ x ≤ 1000000000000000) : In64 x := by unfold In64; omega
theorem Res.blk_lt {w : World} {B t sz n cap : Nat} {A : Option Addr} {rows : List (List Value)} (h : Res B w t sz A n cap rows) {x : Nat} (hx : blkOf A = some x) : B ≤ x ∧ x < w.heap.size := by
  rcases h.own.2 with ⟨h1, _⟩ | ⟨g, c, cur, e, _⟩
  · simp only [Value.slice.injEq] at h1; rw [h1.1] at hx; cases hx
  · simp only [Value.slice.injEq] at e; rw [e.1] at hx; injection hx with hx; subst hx; exact h.lt e.1
theorem holdings_snoc (xs : List Holding) (k a y s l r c : Int) : holdingRows xs ++ [[.int .i64 k, .int .i64 a, .int .i64 y, .int .i64 s, .int .i64 l, .int .i64 r, .int .i64 c]] = holdingRows (xs ++ [⟨k, a, y, s, l, r, c⟩]) := by simp [holdingRows, Holding.row]
theorem or_blk {A A' : Option Addr} {y z : Nat} (h : blkOf A' = blkOf A ∨ blkOf A' = some y) (hy : z ≤ y) : ∀ x, blkOf A' = some x → blkOf A = some x ∨ z ≤ x := by
  intro x hx
  rcases h with h | h
  · exact .inl (h.symm.trans hx)
  · rw [h] at hx; injection hx with hx; exact .inr (by omega)
/-- .. with the list -/
structure L17 (K : Code) (g : Nat) (w W : World) (Gb Gp : Nat) (b : Bas) (A : Option Addr) (n c : Nat) (p : Policy) (A2 : Option Addr) (k c2 : Nat) (xs : List Holding) : Prop where
  e : E17 K g w W Gb Gp b A n c p
  res : Res w.heap.size W 90 7 A2 k c2 (holdingRows xs)
  al : ∀ x, blkOf A2 = some x → Gp < x
  fits : ∀ x ∈ xs, x.fits
namespace L17
variable {K : Code} {g : Nat} {w W W' : World} {Gb Gp : Nat} {b : Bas} {A : Option Addr} {n c : Nat} {p : Policy} {A2 : Option Addr} {k c2 : Nat} {xs : List Holding}
theorem nxx (h : L17 K g w W Gb Gp b A n c p A2 k c2 xs) (hN : Nx K g W W') : L17 K g w W' Gb Gp b A n c p A2 k c2 xs :=
  { h with e := h.e.nxx hN, res := h.res.nx hN h.e.gw }
theorem past (h : L17 K g w W Gb Gp b A n c p A2 k c2 xs) (hb : Below W.heap.size W W') : L17 K g w W' Gb Gp b A n c p A2 k c2 xs :=
  { h with e := h.e.past hb, res := h.res.past hb }
theorem app (h : L17 K g w W Gb Gp b A n c p A2 k c2 xs) {A3 : Option Addr} {c3 : Nat} {kd a y s l r q : Int} (hR : Res w.heap.size W' 90 7 A3 (k + 1) c3 (holdingRows xs ++ [[.int .i64 kd, .int .i64 a, .int .i64 y, .int .i64 s, .int .i64 l, .int .i64 r, .int .i64 q]]))
    (hb : Below w.heap.size W W') (hk : KeptBut W W' A2) (ho : ∀ x, blkOf A3 = some x → blkOf A2 = some x ∨ W.heap.size ≤ x) (hf : Holding.fits ⟨kd, a, y, s, l, r, q⟩) :
    L17 K g w W' Gb Gp b A n c p A3 (k + 1) c3 (xs ++ [⟨kd, a, y, s, l, r, q⟩]) := by
  have h1 := h.e.gw; have h2 := h.e.wb; have h3 := h.e.bp
  have hlt := h.e.pol.lt
  rw [holdings_snoc] at hR
  refine ⟨h.e.kept hb fun x hx => ?_, hR, fun x hx => ?_, fun x hx => ?_⟩
  · have hle : x ≤ Gp := by
      rcases hx with rfl | rfl | rfl | hx
      · omega
      · omega
      · omega
      · have := (h.e.aG x hx).1; omega
    exact hk x (by omega) (fun e => by have := h.al x e.symm; omega)
  · rcases ho x hx with ho | ho
    · exact h.al x ho
    · omega
  · rcases List.mem_append.1 hx with hx | hx
    · exact h.fits x hx
    · simp only [List.mem_singleton] at hx; rw [hx]; exact hf
theorem src (h : L17 K g w W Gb Gp b A n c p A2 k c2 xs) : Src K g W := h.e.nx.src
end L17
/-- .. with the policy of a round -/
structure Q17 (K : Code) (g : Nat) (w W : World) (Gb Gp : Nat) (b : Bas) (A : Option Addr) (n c : Nat) (p : Policy) (A2 : Option Addr) (k c2 : Nat) (xs : List Holding) (Gq : Nat) (q : Policy) : Prop where
  l : L17 K g w W Gb Gp b A n c p A2 k c2 xs
  q : Blk W Gq 88 (polCells q)
  pq : Gp < Gq
  aq : ∀ x, blkOf A2 = some x → x ≠ Gq
namespace Q17
variable {K : Code} {g : Nat} {w W W' : World} {Gb Gp : Nat} {b : Bas} {A : Option Addr} {n c : Nat} {p : Policy} {Gq : Nat} {q : Policy} {A2 : Option Addr} {k c2 : Nat} {xs : List Holding}
theorem nxx (h : Q17 K g w W Gb Gp b A n c p A2 k c2 xs Gq q) (hN : Nx K g W W') : Q17 K g w W' Gb Gp b A n c p A2 k c2 xs Gq q := by
  have h1 := h.l.e.gw; have h2 := h.l.e.wb; have h3 := h.l.e.bp; have h4 := h.pq
  exact { h with l := h.l.nxx hN, q := h.q.nx hN (by omega) }
theorem past (h : Q17 K g w W Gb Gp b A n c p A2 k c2 xs Gq q) (hb : Below W.heap.size W W') : Q17 K g w W' Gb Gp b A n c p A2 k c2 xs Gq q :=
  { h with l := h.l.past hb, q := h.q.below' hb }
theorem put (h : Q17 K g w W Gb Gp b A n c p A2 k c2 xs Gq q) (i : Nat) (v : Value) (q' : Policy) (hq : (polCells q).setIfInBounds i v = polCells q') : Q17 K g w (W.setCell ⟨Gq, i, none⟩ v) Gb Gp b A n c p A2 k c2 xs Gq q' := by
  have h0 := h.q.set_ i v
  rw [hq] at h0
  exact { h with l := { h.l with e := h.l.e.far h.pq i v, res := h.l.res.keep fun a ha => Below.heap_setCell _ _ _ _ (h.aq a (by rw [ha]; rfl)) }, q := h0 }
theorem far (h : Q17 K g w W Gb Gp b A n c p A2 k c2 xs Gq q) {G : Nat} (hG : Gq < G) (hA : ∀ x, blkOf A2 = some x → x ≠ G) (i : Nat) (v : Value) : Q17 K g w (W.setCell ⟨G, i, none⟩ v) Gb Gp b A n c p A2 k c2 xs Gq q := by
  have h1 := h.pq
  exact { h with l := { h.l with e := h.l.e.far (by omega) i v, res := h.l.res.keep fun a ha => Below.heap_setCell _ _ _ _ (hA a (by rw [ha]; rfl)) }, q := h.q.far (by show Gq ≠ G; omega) v }
/-- seven stores into a box that is new -/
theorem seven (h : Q17 K g w W Gb Gp b A n c p A2 k c2 xs Gq q) {G : Nat} (hG : Gq < G) (hA : ∀ x, blkOf A2 = some x → x ≠ G) {t : TypeId} {z0 z1 z2 z3 z4 z5 z6 : Value} (hb : Blk W G t #[z0, z1, z2, z3, z4, z5, z6]) (a0 a1 a2 a3 a4 a5 a6 : Value) :
    Q17 K g w (((((((W.setCell ⟨G, 0, none⟩ a0).setCell ⟨G, 1, none⟩ a1).setCell ⟨G, 2, none⟩ a2).setCell ⟨G, 3, none⟩ a3).setCell ⟨G, 4, none⟩ a4).setCell ⟨G, 5, none⟩ a5).setCell ⟨G, 6, none⟩ a6) Gb Gp b A n c p A2 k c2 xs Gq q ∧
    Blk (((((((W.setCell ⟨G, 0, none⟩ a0).setCell ⟨G, 1, none⟩ a1).setCell ⟨G, 2, none⟩ a2).setCell ⟨G, 3, none⟩ a3).setCell ⟨G, 4, none⟩ a4).setCell ⟨G, 5, none⟩ a5).setCell ⟨G, 6, none⟩ a6) G t #[a0, a1, a2, a3, a4, a5, a6] := by
  refine ⟨((((((h.far hG hA 0 a0).far hG hA 1 a1).far hG hA 2 a2).far hG hA 3 a3).far hG hA 4 a4).far hG hA 5 a5).far hG hA 6 a6, ?_⟩
  have := ((((((hb.set_ 0 a0).set_ 1 a1).set_ 2 a2).set_ 3 a3).set_ 4 a4).set_ 5 a5).set_ 6 a6
  simpa using this
theorem src (h : Q17 K g w W Gb Gp b A n c p A2 k c2 xs Gq q) : Src K g W := h.l.e.nx.src
end Q17

theorem spec_l10Draw_lit (K : Code) (hK : K.Ok) (g : Nat) (w0 : World) (w : World) (hT : Nx K g w0 w) :
    Calls Tryz.prog 134 #[.pointer (some ⟨g, 0, none⟩)] w fun e w' => ∃ (b : Bas) (A' : Option Addr) (n' c' : Nat) (p : Policy), e = .returned (.tuple #[.agg #[.int .i64 b.first, .slice A' n' c', .int .i64 b.rate], .agg #[.int .i64 p.kind, .int .i64 p.age, .int .i64 p.years, .int .i64 p.sum, .int .i64 p.load]]) ∧ Res w0.heap.size w' 2 1 A' n' c' (intRows b.lives) ∧ BasSmall b n' ∧ PolSmall p ∧ Nx K g w0 w' := by
  refine (spec_l10Draw_any K hK g w0 w hT).mono ?_
  rintro e w3 ⟨b, A1, n1, c1, p, rfl, hR, hn1, hlv, hf1, hr, hps, hT⟩
  exact ⟨b, A1, n1, c1, p, rfl, hR, ⟨hn1, hlv, hf1, hr⟩, hps, hT⟩

set_option maxRecDepth 100000 in
set_option maxHeartbeats 8000000 in
theorem spec_l17Draw_any (K : Code) (hK : K.Ok) (g : Nat) (w0 : World) (w : World) (hT : Nx K g w0 w) :
    Calls Tryz.prog 73 #[.pointer (some ⟨g, 0, none⟩)] w fun e w' => ∃ (b : Bas) (A' : Option Addr) (n' c' : Nat) (A2 : Option Addr) (k c2 : Nat) (xs : List Holding), e = .returned (.tuple #[.agg #[.int .i64 b.first, .slice A' n' c', .int .i64 b.rate], .slice A2 k c2]) ∧ Res w0.heap.size w' 2 1 A' n' c' (intRows b.lives) ∧ BasSmall b n' ∧ Res w0.heap.size w' 90 7 A2 k c2 (holdingRows xs) ∧ k ≤ 100 ∧ (∀ x ∈ xs, x.fits) ∧ Nx K g w0 w' := by
  have HT0 := Lib.hid hT
  have hgw := hT.src.lt
  have hOw := (Nx.refl hT.src).alloc (.cells #[.int .i64 0, .slice none 0 0, .int .i64 0] 28)
  have HZB := Lib.hid (Blk.new w 28 #[.int .i64 0, .slice none 0 0, .int .i64 0])
  obtain ⟨i0, hi0, hz0, hz1, hz2⟩ := info_parts Holding.info
  have HI := Lib.hid (And.intro hi0 (And.intro hz0 (And.intro hz1 hz2))); clear hi0 hz0 hz1 hz2
  clear hT
  have hT := Nx.refl hOw.src
  have HSZ := Lib.hid (show w.heap.size + 1 = (w.alloc (.cells #[.int .i64 0, .slice none 0 0, .int .i64 0] 28)).heap.size by simp)
  go_enter Tryz.func73, Tryz.ntmps73
  go_wp2_with fail
  generalize w.alloc (.cells #[.int .i64 0, .slice none 0 0, .int .i64 0] 28) = Wa at hT hOw HZB HSZ ⊢
  go_upto_region 2 with (go_at_call 134; refine (spec_l10Draw_lit K hK g _ _ hT).mono ?_; rintro e w3 ⟨b, A1, n1, c1, p, rfl, hR, hbs, hps, hT⟩; have hO := hT; have hT := Nx.refl hT.src)
  have HE := Lib.hid (show E17 K g w ((w3.alloc (.cells #[.int .i64 b.first, .slice A1 n1 c1, .int .i64 b.rate] 28)).alloc (.cells #[.int .i64 p.kind, .int .i64 p.age, .int .i64 p.years, .int .i64 p.sum, .int .i64 p.load] 88)) w3.heap.size (w3.heap.size + 1) b A1 n1 c1 p from by
    have hsz := HSZ.out
    have hab : Wa.heap.size ≤ w3.heap.size := hO.size
    have hb3 : Below w3.heap.size w3 ((w3.alloc (.cells #[.int .i64 b.first, .slice A1 n1 c1, .int .i64 b.rate] 28)).alloc (.cells #[.int .i64 p.kind, .int .i64 p.age, .int .i64 p.years, .int .i64 p.sum, .int .i64 p.load] 88)) := ((Below.refl _ _).alloc (Nat.le_refl _) _).alloc (by simp) _
    have hpol := Blk.new (w3.alloc (.cells #[.int .i64 b.first, .slice A1 n1 c1, .int .i64 b.rate] 28)) 88 (polCells p)
    simp only [World.size_alloc] at hpol
    refine ⟨(HZB.out.nx hO (by omega)).below' hb3, (Blk.new w3 _ _).alloc _, hpol, (hR.more (by omega)).past hb3, (hOw.trans hO).past hb3, hgw, by omega, by omega, fun a ha => ?_⟩
    have := hR.lt ha; omega)
  clear hR hO hT HZB hOw
  generalize (w3.alloc (.cells #[.int .i64 b.first, .slice A1 n1 c1, .int .i64 b.rate] 28)).alloc (.cells #[.int .i64 p.kind, .int .i64 p.age, .int .i64 p.years, .int .i64 p.sum, .int .i64 p.load] 88) = Wb at HE ⊢
  generalize w3.heap.size + 1 = Gp at HE ⊢
  generalize w3.heap.size = Gb at HE ⊢
  have HP0 := Lib.hid hps; clear hps
  have HBS := Lib.hid hbs; clear hbs
  have hT := (Nx.refl HE.out.nx.src)
  go_wp2_with (first | (go_at_call 102; refine (spec_l01Next_any K hK g _ _ _ (Nx.refl (Nx.src (by first | exact hT | exact hT.alloc _ | exact (hT.alloc _).alloc _ | exact hT.drew)))).mono ?_; rintro e w3 ⟨x, rfl, ⟨hx0, hx1⟩, hN⟩; have hT := Nx.trans (by first | exact hT | exact hT.alloc _ | exact (hT.alloc _).alloc _ | exact hT.drew) hN))
  obtain ⟨m0, rfl⟩ := Int.eq_ofNat_of_zero_le hx0
  have HL := Lib.hid (show L17 K g w w3 Gb Gp b A1 n1 c1 p (some ⟨Wb.heap.size, 0, none⟩) 0 0 [] from
    ⟨HE.out.nxx hT, (Res.zero_at (by have := HE.out.nx.size; omega) rfl).nx hN hgw, fun x hx => by
      have hx2 : Wb.heap.size = x := by injection hx
      have := HE.out.pol.lt
      omega, by simp⟩)
  clear hN hT HE hx0
  generalize Wb.heap.size = Gl at HL ⊢
  go_loopg [6, 7] m0 (fun nn o i wr => ∃ (A2 : Option Addr) (k c2 : Nat) (xs : List Holding), i = .int .i64 (nn : Int) ∧ o = .slice A2 k c2 ∧ k + nn ≤ 10 ∧ Hid (L17 K g w wr Gb Gp b A1 n1 c1 p A2 k c2 xs))
  case atStart => exact ⟨_, 0, 0, [], rfl, rfl, by omega, HL⟩
  case round =>
    obtain ⟨A2, k, c2, xs, rfl, rfl, hkn, HL⟩ := hrel
    cases gk with
    | zero =>
      have HQ := HL
      have hT := Nx.refl HQ.out.src
      go_upto_block 2 with (go_at_call 102; refine (spec_l01Next_any K hK g _ _ _ (by first | exact hT | exact hT.alloc _ | exact (hT.alloc _).alloc _ | exact hT.drew)).mono ?_; rintro e w3 ⟨y, rfl, ⟨hy0, hy1⟩, hTy⟩; have HQ := Lib.hid (HQ.out.nxx hTy); clear hTy; have hT := Nx.refl HQ.out.src)
      go_cut [6] (fun l wx => ∃ (A3 : Option Addr) (k3 c3 : Nat) (ys : List Holding), l = .slice A3 k3 c3 ∧ k3 ≤ 50 ∧ Hid (L17 K g w wx Gb Gp b A1 n1 c1 p A3 k3 c3 ys))
      case first =>
        have HGL := Lib.hid (show g < w3.heap.size from HQ.out.src.lt)
        have HPF := Lib.hid (show ∀ c : Int, -1 ≤ c ∧ c ≤ 1000001 → Holding.fits ⟨p.kind, p.age, p.years, p.sum, p.load, 0, c⟩ from fun c hc => by
          obtain ⟨f1, f2, f3, f4, f5⟩ := HP0.out.wide.fits
          exact ⟨f1, f2, f3, f4, f5, in64_lt (x := 0) (by omega), in64_lt (x := c) (by omega)⟩)
        cases h0 : (y == 0)
        rotate_left
        · go_upto_region 22 with fail
          have s0 : w3.cell? ⟨Gp, 0, none⟩ = some (.int .i64 p.kind) := HQ.out.e.pol.cell 0
          have a0 : (w3.alloc (.cells #[.int .i64 (-1), .int .i64 0, .int .i64 1000000, .int .i64 1000001] 2)).cell? ⟨Gp, 0, none⟩ = some (.int .i64 p.kind) := (HQ.out.e.pol.alloc _).cell 0
          have s1 : w3.cell? ⟨Gp, 1, none⟩ = some (.int .i64 p.age) := HQ.out.e.pol.cell 1
          have a1 : (w3.alloc (.cells #[.int .i64 (-1), .int .i64 0, .int .i64 1000000, .int .i64 1000001] 2)).cell? ⟨Gp, 1, none⟩ = some (.int .i64 p.age) := (HQ.out.e.pol.alloc _).cell 1
          have s2 : w3.cell? ⟨Gp, 2, none⟩ = some (.int .i64 p.years) := HQ.out.e.pol.cell 2
          have a2 : (w3.alloc (.cells #[.int .i64 (-1), .int .i64 0, .int .i64 1000000, .int .i64 1000001] 2)).cell? ⟨Gp, 2, none⟩ = some (.int .i64 p.years) := (HQ.out.e.pol.alloc _).cell 2
          have s3 : w3.cell? ⟨Gp, 3, none⟩ = some (.int .i64 p.sum) := HQ.out.e.pol.cell 3
          have a3 : (w3.alloc (.cells #[.int .i64 (-1), .int .i64 0, .int .i64 1000000, .int .i64 1000001] 2)).cell? ⟨Gp, 3, none⟩ = some (.int .i64 p.sum) := (HQ.out.e.pol.alloc _).cell 3
          have s4 : w3.cell? ⟨Gp, 4, none⟩ = some (.int .i64 p.load) := HQ.out.e.pol.cell 4
          have a4 : (w3.alloc (.cells #[.int .i64 (-1), .int .i64 0, .int .i64 1000000, .int .i64 1000001] 2)).cell? ⟨Gp, 4, none⟩ = some (.int .i64 p.load) := (HQ.out.e.pol.alloc _).cell 4
          go_region_law (first | (go_simp; go_at_call 80; refine (spec_l01Pick_any K hK g _ w3.heap.size [.int .i64 (-1), .int .i64 0, .int .i64 1000000, .int .i64 1000001] 4 _ (by first | exact hT.alloc _ | exact (hT.alloc _).drew) (by first | exact Blk.new w3 _ _ | exact (Blk.new w3 _ _).drew) HGL.out rfl (by decide) (by decide) rfl).mono ?_; rintro e w5 ⟨ct, rfl, hct, hT5⟩; simp only [OneOf, Value.int.injEq, true_and, or_false] at hct; have HQ5 := Lib.hid (HQ.out.nxx hT5); have s0 : w5.cell? ⟨Gp, 0, none⟩ = some (.int .i64 p.kind) := HQ5.out.e.pol.cell 0; have s1 : w5.cell? ⟨Gp, 1, none⟩ = some (.int .i64 p.age) := HQ5.out.e.pol.cell 1; have s2 : w5.cell? ⟨Gp, 2, none⟩ = some (.int .i64 p.years) := HQ5.out.e.pol.cell 2; have s3 : w5.cell? ⟨Gp, 3, none⟩ = some (.int .i64 p.sum) := HQ5.out.e.pol.cell 3; have s4 : w5.cell? ⟨Gp, 4, none⟩ = some (.int .i64 p.load) := HQ5.out.e.pol.cell 4) | (refine step_append_row_at rfl (.tmp 86) (.tmp 92) 29 rfl w.heap.size 90 i0 _ 7 56 Tryz.underlying29 HI.out.1 HI.out.2.1 HI.out.2.2.1 HI.out.2.2.2 rfl (by decide) (by decide) A2 k c2 _ rfl (HQ5.out.res.past ((Below.refl w5.heap.size w5).alloc (Nat.le_refl _) _)) [.int .i64 p.kind, .int .i64 p.age, .int .i64 p.years, .int .i64 p.sum, .int .i64 p.load, .int .i64 0, .int .i64 ct] w5.heap.size 1 _ rfl (Blk.new w5 _ _) rfl (by simp [Value.oneCell']) (by omega) (by have := HQ5.out.e.nx.size; simp; omega) ?_; intro A3 c3 w6 hR6 hb6 hk6 ho6))
          all_goals
            have HL9 := Lib.hid ((HQ5.out.past ((Below.refl w5.heap.size w5).alloc (Nat.le_refl _) _)).app hR6 hb6 hk6 (or_blk ho6 (Nat.le_refl _)) (HPF.out ct (by omega)))
            clear hR6 hb6 hk6 ho6
            go_wp2_with fail
            go_meet
            case rel => exact ⟨A3, k + 1, c3, _, rfl, by omega, HL9⟩
        · cases h1 : (y == 1)
          · go_wp2_with fail
            go_meet
            case rel => exact ⟨A2, k, c2, xs, rfl, by omega, HQ⟩
          · have HBT := Lib.hid (HQ.out.e.basT HBS.out)
            have hcB := Lib.hid (Blk.agg (cs := [.int .i64 b.first, .slice A1 n1 c1, .int .i64 b.rate]) HQ.out.e.bas 0 [.int .i64 b.first, .slice A1 n1 c1, .int .i64 b.rate] rfl)
            have hcP := Lib.hid (Blk.agg (cs := [.int .i64 p.kind, .int .i64 p.age, .int .i64 p.years, .int .i64 p.sum, .int .i64 p.load]) HQ.out.e.pol 0 [.int .i64 p.kind, .int .i64 p.age, .int .i64 p.years, .int .i64 p.sum, .int .i64 p.load] rfl)
            cases hz : polB b p
            · go_wp2_with (first | (refine wpList_load_agg rfl 28 _ rfl ⟨Gb, 0, none⟩ rfl [.int .i64 b.first, .slice A1 n1 c1, .int .i64 b.rate] hcB.out _ Tryz.underlying28 rfl Bas.size ?_) | (refine wpList_load_agg rfl 88 _ rfl ⟨Gp, 0, none⟩ rfl [.int .i64 p.kind, .int .i64 p.age, .int .i64 p.years, .int .i64 p.sum, .int .i64 p.load] hcP.out _ Tryz.underlying88 rfl Policy.size ?_) | (go_at_call 135; refine (spec_IsPolicy_any b A1 n1 c1 p _ HBT.out HP0.out.wide.fits).mono ?_; rw [hz]; rintro e w2 ⟨rfl, hb2⟩; have HQ := Lib.hid (HQ.out.past hb2); have hT := Nx.refl HQ.out.src))
              go_meet
              case rel => exact ⟨A2, k, c2, xs, rfl, by omega, HQ⟩
            · go_upto_region 26 with (first | (refine wpList_load_agg rfl 28 _ rfl ⟨Gb, 0, none⟩ rfl [.int .i64 b.first, .slice A1 n1 c1, .int .i64 b.rate] hcB.out _ Tryz.underlying28 rfl Bas.size ?_) | (refine wpList_load_agg rfl 88 _ rfl ⟨Gp, 0, none⟩ rfl [.int .i64 p.kind, .int .i64 p.age, .int .i64 p.years, .int .i64 p.sum, .int .i64 p.load] hcP.out _ Tryz.underlying88 rfl Policy.size ?_) | (go_at_call 135; refine (spec_IsPolicy_any b A1 n1 c1 p _ HBT.out HP0.out.wide.fits).mono ?_; rw [hz]; rintro e w2 ⟨rfl, hb2⟩; have HQ := Lib.hid (HQ.out.past hb2); have hT := Nx.refl HQ.out.src))
              have HQ := Lib.hid (show L17 K g w (w2.alloc (.cells #[] 90)) Gb Gp b A1 n1 c1 p (some ⟨w2.heap.size, 0, none⟩) 0 0 [] from
                ⟨HQ.out.e.past ((Below.refl _ _).alloc (Nat.le_refl _) _), Res.zero_at (by have := HQ.out.e.nx.size; omega) rfl, fun x hx => by
                  have hx2 : w2.heap.size = x := by injection hx
                  have := HQ.out.e.pol.lt
                  omega, by simp⟩)
              clear hT hcB hcP HBT hb2
              generalize w2.alloc (.cells #[] 90) = W8 at HQ ⊢
              generalize w2.heap.size = G8 at HQ ⊢
              have hT := Nx.refl HQ.out.src
              go_wp2_with (go_at_call 102; refine (spec_l01Next_any K hK g _ _ _ (by first | exact hT | exact hT.alloc _ | exact (hT.alloc _).alloc _ | exact hT.drew)).mono ?_; rintro e w3 ⟨z, rfl, ⟨hz0, hz1⟩, hTy⟩; have HQ := Lib.hid (HQ.out.nxx hTy); clear hTy; have hT := Nx.refl HQ.out.src)
              obtain ⟨z', rfl⟩ := Int.eq_ofNat_of_zero_le hz0
              have HZ9 := Lib.hid (show z' ≤ 2 by omega)
              clear hz0 hz1 hT
              go_loopg [6, 11] (30 + z') (fun nn o i wr => ∃ (A3 : Option Addr) (k3 c3 : Nat) (ys : List Holding), i = .int .i64 (nn : Int) ∧ o = .slice A3 k3 c3 ∧ k3 + nn ≤ 40 ∧ Hid (L17 K g w wr Gb Gp b A1 n1 c1 p A3 k3 c3 ys))
              case atStart => exact ⟨_, 0, 0, [], by go_num, rfl, by have := HZ9.out; omega, HQ⟩
              case round =>
                clear HQ
                obtain ⟨A3, k3, c3, ys, rfl, rfl, hk3, HQ⟩ := hrel
                cases gk with
                | zero =>
                  go_wp2_with fail
                  go_meet
                  case rel => exact ⟨A3, k3, c3, ys, rfl, by omega, HQ⟩
                | succ m =>
                  have hmi : (0 : Int) < ((m + 1 : Nat) : Int) := by omega
                  have hcP := Lib.hid (Blk.agg (cs := [.int .i64 p.kind, .int .i64 p.age, .int .i64 p.years, .int .i64 p.sum, .int .i64 p.load]) HQ.out.e.pol 0 [.int .i64 p.kind, .int .i64 p.age, .int .i64 p.years, .int .i64 p.sum, .int .i64 p.load] rfl)
                  go_wp2_with (first | (refine wpList_load_agg rfl 88 _ rfl ⟨Gp, 0, none⟩ rfl [.int .i64 p.kind, .int .i64 p.age, .int .i64 p.years, .int .i64 p.sum, .int .i64 p.load] hcP.out _ Tryz.underlying88 rfl Policy.size ?_) | (at_builtin; refine wpList_append_row_at _ rfl _ _ _ rfl w.heap.size 90 i0 _ 7 56 Tryz.underlying29 HI.out.1 HI.out.2.1 HI.out.2.2.1 HI.out.2.2.2 rfl (by decide) (by decide) _ _ _ _ rfl HQ.out.res [.int .i64 _, .int .i64 _, .int .i64 _, .int .i64 _, .int .i64 _, .int .i64 _, .int .i64 _] _ rfl rfl (by simp [Value.oneCell']) (by omega) (by have := HQ.out.e.nx.size; omega) ?_; intro A5 c5 w5 hR5 hb5 hk5 ho5))
                  have HL := Lib.hid (HQ.out.app hR5 hb5 hk5 (or_blk ho5 (Nat.le_succ _)) (HPF.out _ (by omega)))
                  clear hR5 hb5 hk5 ho5
                  go_wp2_with fail
                  go_roundg m
                  case measure => omega
                  case rel => exact ⟨A5, k3 + 1, c5, _, by go_num, rfl, by omega, HL⟩
      case rest =>
        clear HQ hT HL hy0 hy1
        obtain ⟨A3, k3, c3, ys, rfl, hk3, HQ⟩ := hcut
        have hcB := Lib.hid (Blk.agg (cs := [.int .i64 b.first, .slice A1 n1 c1, .int .i64 b.rate]) HQ.out.e.bas 0 [.int .i64 b.first, .slice A1 n1 c1, .int .i64 b.rate] rfl)
        have hgw9 := HQ.out.e.gw
        have hwb9 := HQ.out.e.wb
        have hbp9 := HQ.out.e.bp
        have zc0 : wc.cell? ⟨w.heap.size, 0, none⟩ = some (.int .i64 0) := HQ.out.e.zb.cell 0
        have zf0 : wc.frozen? ⟨w.heap.size, 0, none⟩ = false := HQ.out.e.zb.frozen 0
        have zc1 : wc.cell? ⟨w.heap.size, 1, none⟩ = some (.slice none 0 0) := HQ.out.e.zb.cell 1
        have zf1 : wc.frozen? ⟨w.heap.size, 1, none⟩ = false := HQ.out.e.zb.frozen 1
        have zc2 : wc.cell? ⟨w.heap.size, 2, none⟩ = some (.int .i64 0) := HQ.out.e.zb.cell 2
        have zf2 : wc.frozen? ⟨w.heap.size, 2, none⟩ = false := HQ.out.e.zb.frozen 2
        go_wp2_with (refine wpList_load_agg rfl 28 _ rfl ⟨Gb, 0, none⟩ rfl [.int .i64 b.first, .slice A1 n1 c1, .int .i64 b.rate] hcB.out _ Tryz.underlying28 rfl Bas.size ?_)
        have hz9 : Blk (((wc.setCell ⟨w.heap.size, 0, none⟩ (.int .i64 b.first)).setCell ⟨w.heap.size, 1, none⟩ (.slice A1 n1 c1)).setCell ⟨w.heap.size, 2, none⟩ (.int .i64 b.rate)) w.heap.size 28 #[.int .i64 b.first, .slice A1 n1 c1, .int .i64 b.rate] := by simpa using ((HQ.out.e.zb.set_ 0 (.int .i64 b.first)).set_ 1 (.slice A1 n1 c1)).set_ 2 (.int .i64 b.rate)
        have hb9 : Below w.heap.size wc (((wc.setCell ⟨w.heap.size, 0, none⟩ (.int .i64 b.first)).setCell ⟨w.heap.size, 1, none⟩ (.slice A1 n1 c1)).setCell ⟨w.heap.size, 2, none⟩ (.int .i64 b.rate)) := (((Below.refl _ _).setCell (p := ⟨w.heap.size, 0, none⟩) (Nat.le_refl _) _).setCell (p := ⟨w.heap.size, 1, none⟩) (Nat.le_refl _) _).setCell (p := ⟨w.heap.size, 2, none⟩) (Nat.le_refl _) _
        have hk9 : ∀ x, x ≠ w.heap.size → (((wc.setCell ⟨w.heap.size, 0, none⟩ (.int .i64 b.first)).setCell ⟨w.heap.size, 1, none⟩ (.slice A1 n1 c1)).setCell ⟨w.heap.size, 2, none⟩ (.int .i64 b.rate)).heap[x]? = wc.heap[x]? := fun x hx => (Below.heap_setCell _ _ _ _ hx).trans ((Below.heap_setCell _ _ _ _ hx).trans (Below.heap_setCell _ _ _ _ hx))
        generalize ((wc.setCell ⟨w.heap.size, 0, none⟩ (.int .i64 b.first)).setCell ⟨w.heap.size, 1, none⟩ (.slice A1 n1 c1)).setCell ⟨w.heap.size, 2, none⟩ (.int .i64 b.rate) = W9 at hz9 hb9 hk9 ⊢
        have r0 : W9.cell? ⟨w.heap.size, 0, none⟩ = some (.int .i64 b.first) := hz9.cell 0
        have r1 : W9.cell? ⟨w.heap.size, 1, none⟩ = some (.slice A1 n1 c1) := hz9.cell 1
        have r2 : W9.cell? ⟨w.heap.size, 2, none⟩ = some (.int .i64 b.rate) := hz9.cell 2
        refine bodyPost_ret (v := .tuple #[.agg #[.int .i64 b.first, .slice A1 n1 c1, .int .i64 b.rate], .slice A3 k3 c3]) (by simp [results, Tryz.results73, go_sem, r0, r1, r2]) rfl ?_
        have hws := HT0.out.size
        exact ⟨b, A1, n1, c1, A3, k3, c3, ys, rfl, (HQ.out.e.liv.keep fun a ha => hk9 a (HQ.out.e.aG a ha).2).more hws, HBS.out, (HQ.out.res.keep fun a ha => hk9 a (by have := HQ.out.al a (by rw [ha]; rfl); omega)).more hws, by omega, HQ.out.fits, HT0.out.trans (HQ.out.e.nx.kept hgw9 (Nat.le_refl _) hb9)⟩
    | succ m =>
      have hmi : (0 : Int) < ((m + 1 : Nat) : Int) := by omega
      have hcP := Lib.hid (Blk.agg (cs := [.int .i64 p.kind, .int .i64 p.age, .int .i64 p.years, .int .i64 p.sum, .int .i64 p.load]) HL.out.e.pol 0 [.int .i64 p.kind, .int .i64 p.age, .int .i64 p.years, .int .i64 p.sum, .int .i64 p.load] rfl)
      go_upto_region 7 with (refine wpList_load_agg rfl 88 _ rfl ⟨Gp, 0, none⟩ rfl [.int .i64 p.kind, .int .i64 p.age, .int .i64 p.years, .int .i64 p.sum, .int .i64 p.load] hcP.out _ Tryz.underlying88 rfl Policy.size ?_)
      have HQ := Lib.hid (show Q17 K g w (wr.alloc (.cells #[.int .i64 p.kind, .int .i64 p.age, .int .i64 p.years, .int .i64 p.sum, .int .i64 p.load] 88)) Gb Gp b A1 n1 c1 p A2 k c2 xs wr.heap.size p from
        ⟨HL.out.past ((Below.refl _ _).alloc (Nat.le_refl _) _), Blk.new wr _ _, HL.out.e.pol.lt, fun x hx => by have := (HL.out.res.blk_lt hx).2; omega⟩)
      clear HL hcP
      generalize wr.alloc (.cells #[.int .i64 p.kind, .int .i64 p.age, .int .i64 p.years, .int .i64 p.sum, .int .i64 p.load] 88) = Wq at HQ ⊢
      generalize wr.heap.size = Gq at HQ ⊢
      have hT := Nx.refl HQ.out.src
      go_upto_if 27 with (go_at_call 102; refine (spec_l01Next_any K hK g _ _ _ (by first | exact hT | exact hT.alloc _ | exact (hT.alloc _).alloc _ | exact hT.drew)).mono ?_; rintro e w3 ⟨x, rfl, ⟨hx0, hx1⟩, hTy⟩; have HQ := Lib.hid (HQ.out.nxx hTy); clear hTy; have hT := Nx.refl HQ.out.src)
      go_cut [] (fun wx => ∃ q : Policy, Hid (PolSmall q) ∧ Hid (Q17 K g w wx Gb Gp b A1 n1 c1 p A2 k c2 xs Gq q))
      case first =>
        clear hx0 hx1
        go_wp2_with fail
        · go_upto_region 9 with ((go_at_call 102; refine (spec_l01Next_any K hK g _ _ _ (by first | exact hT | exact hT.alloc _ | exact (hT.alloc _).alloc _ | exact hT.drew)).mono ?_; rintro e w3 ⟨y, rfl, ⟨hy0, hy1⟩, hTy⟩; have HQ := Lib.hid (HQ.out.nxx hTy); clear hTy; have hT := Nx.refl HQ.out.src); have z3 := HQ.out.q.frozen 3; have f3 := HQ.out.q.cell 3)
          have hy : 0 ≤ y ∧ y ≤ 1000000 := by omega
          have HQ := Lib.hid (HQ.out.put 3 (.int .i64 (1 + y)) ⟨p.kind, p.age, p.years, 1 + y, p.load⟩ (by simp))
          clear hy0 hy1 hT z3 f3
          generalize w3.setCell ⟨Gq, 3, none⟩ (.int .i64 (1 + y)) = W5 at HQ ⊢
          have hT := Nx.refl HQ.out.src
          go_wp2_with ((go_at_call 102; refine (spec_l01Next_any K hK g _ _ _ (by first | exact hT | exact hT.alloc _ | exact (hT.alloc _).alloc _ | exact hT.drew)).mono ?_; rintro e w3 ⟨z, rfl, ⟨hz0, hz1⟩, hTy⟩; have HQ := Lib.hid (HQ.out.nxx hTy); clear hTy; have hT := Nx.refl HQ.out.src); have z4 := HQ.out.q.frozen 4; have f4 := HQ.out.q.cell 4)
          have hz : 0 ≤ z ∧ z ≤ 1000000 := by omega
          go_meet
          case rel => exact ⟨_, Lib.hid (show PolSmall ⟨p.kind, p.age, p.years, 1 + y, z⟩ from ⟨HP0.out.1, HP0.out.2.1, HP0.out.2.2.1, by show -2000000000 ≤ 1 + y ∧ 1 + y ≤ 2000000000; omega, by show -2000000000 ≤ z ∧ z ≤ 2000000000; omega⟩), Lib.hid (HQ.out.put 4 (.int .i64 z) ⟨p.kind, p.age, p.years, 1 + y, z⟩ (by simp))⟩
        · go_meet
          case rel => exact ⟨p, HP0, HQ⟩
      case rest =>
        clear hT hx0 hx1
        obtain ⟨q, HP, HQ⟩ := hcut
        have hT := Nx.refl HQ.out.src
        have HBT := Lib.hid (HQ.out.l.e.basT HBS.out)
        go_upto_region 10 with fail
        go_cut [42] (fun t wx => ∃ z : Bool, t = .bool z ∧ Hid (Q17 K g w wx Gb Gp b A1 n1 c1 p A2 k c2 xs Gq q))
        case first =>
          have hcB := Lib.hid (Blk.agg (cs := [.int .i64 b.first, .slice A1 n1 c1, .int .i64 b.rate]) HQ.out.l.e.bas 0 [.int .i64 b.first, .slice A1 n1 c1, .int .i64 b.rate] rfl)
          have hcQ := Lib.hid (Blk.agg (cs := [.int .i64 q.kind, .int .i64 q.age, .int .i64 q.years, .int .i64 q.sum, .int .i64 q.load]) HQ.out.q 0 [.int .i64 q.kind, .int .i64 q.age, .int .i64 q.years, .int .i64 q.sum, .int .i64 q.load] rfl)
          cases hz : polB b q
          all_goals
            go_wp2_with (first | (refine wpList_load_agg rfl 28 _ rfl ⟨Gb, 0, none⟩ rfl [.int .i64 b.first, .slice A1 n1 c1, .int .i64 b.rate] hcB.out _ Tryz.underlying28 rfl Bas.size ?_) | (refine wpList_load_agg rfl 88 _ rfl ⟨Gq, 0, none⟩ rfl [.int .i64 q.kind, .int .i64 q.age, .int .i64 q.years, .int .i64 q.sum, .int .i64 q.load] hcQ.out _ Tryz.underlying88 rfl Policy.size ?_) | (go_at_call 135; refine (spec_IsPolicy_any b A1 n1 c1 q _ HBT.out HP.out.wide.fits).mono ?_; rw [hz]; rintro e w2 ⟨rfl, hb2⟩; have HQ := Lib.hid (HQ.out.past hb2); have hT := Nx.refl HQ.out.src) | (go_at_call 102; refine (spec_l01Next_any K hK g _ _ _ (by first | exact hT | exact hT.alloc _ | exact (hT.alloc _).alloc _ | exact hT.drew)).mono ?_; rintro e w3 ⟨y, rfl, ⟨hy0, hy1⟩, hTy⟩; have HQ := Lib.hid (HQ.out.nxx hTy); clear hTy; have hT := Nx.refl HQ.out.src))
            go_meet
            case rel => exact ⟨_, rfl, HQ⟩
        case rest =>
          clear hT HQ
          obtain ⟨z, rfl, HQ⟩ := hcut
          go_upto_if 42 with fail
          go_cut [] (fun wx => ∃ q : Policy, Hid (PolWide q) ∧ Hid (Q17 K g w wx Gb Gp b A1 n1 c1 p A2 k c2 xs Gq q))
          case first =>
            cases z
            · go_wp2_with fail
              go_meet
              case rel => exact ⟨q, Lib.hid HP.out.wide, HQ⟩
            · go_upto_region 11 with fail
              have q1 : wc.cell? ⟨Gq, 1, none⟩ = some (.int .i64 q.age) := HQ.out.q.cell 1
              go_region_law (go_simp; go_at_call 102; refine (spec_l01Next_any K hK g _ _ _ (by first | exact Nx.refl HQ.out.src | exact (Nx.refl HQ.out.src).drew)).mono ?_; rintro e w5 ⟨x5, rfl, ⟨hx50, hx51⟩, hT5⟩; have HQ5 := Lib.hid (HQ.out.nxx hT5); have q1 : w5.cell? ⟨Gq, 1, none⟩ = some (.int .i64 q.age) := HQ5.out.q.cell 1; have f1 : w5.frozen? ⟨Gq, 1, none⟩ = false := HQ5.out.q.frozen 1)
              all_goals
                rw [show IntKind.i64.wrap (q.age + x5) = q.age + x5 from IntWalk.i64_in _ (by have := HP.out; unfold PolSmall at this; omega)]
                have HP5 := Lib.hid (show PolWide ⟨q.kind, q.age + x5, q.years, q.sum, q.load⟩ from by
                  have := HP.out
                  unfold PolSmall at this
                  exact ⟨by show -3000000000 ≤ q.kind ∧ q.kind ≤ 3000000000; omega, by show -3000000000 ≤ q.age + x5 ∧ q.age + x5 ≤ 3000000000; omega, by show -3000000000 ≤ q.years ∧ q.years ≤ 3000000000; omega, by show -3000000000 ≤ q.sum ∧ q.sum ≤ 3000000000; omega, by show -3000000000 ≤ q.load ∧ q.load ≤ 3000000000; omega⟩)
                have HQ6 := Lib.hid (HQ5.out.put 1 (.int .i64 (q.age + x5)) ⟨q.kind, q.age + x5, q.years, q.sum, q.load⟩ (by simp))
                clear hT5 q1 f1 HQ5 hx50 hx51
                go_wp2_with fail
                go_meet
                case rel => exact ⟨_, HP5, HQ6⟩
          case rest =>
            clear HQ HP hT HBT
            obtain ⟨q, HP, HQ⟩ := hcut
            have hT := Nx.refl HQ.out.src
            have HBT := Lib.hid (HQ.out.l.e.basT HBS.out)
            have hcB := Lib.hid (Blk.agg (cs := [.int .i64 b.first, .slice A1 n1 c1, .int .i64 b.rate]) HQ.out.l.e.bas 0 [.int .i64 b.first, .slice A1 n1 c1, .int .i64 b.rate] rfl)
            have hcQ := Lib.hid (Blk.agg (cs := [.int .i64 q.kind, .int .i64 q.age, .int .i64 q.years, .int .i64 q.sum, .int .i64 q.load]) HQ.out.q 0 [.int .i64 q.kind, .int .i64 q.age, .int .i64 q.years, .int .i64 q.sum, .int .i64 q.load] rfl)
            go_upto_if 51 with (first | (refine wpList_load_agg rfl 28 _ rfl ⟨Gb, 0, none⟩ rfl [.int .i64 b.first, .slice A1 n1 c1, .int .i64 b.rate] hcB.out _ Tryz.underlying28 rfl Bas.size ?_) | (refine wpList_load_agg rfl 88 _ rfl ⟨Gq, 0, none⟩ rfl [.int .i64 q.kind, .int .i64 q.age, .int .i64 q.years, .int .i64 q.sum, .int .i64 q.load] hcQ.out _ Tryz.underlying88 rfl Policy.size ?_) | (go_at_call 135; refine (spec_IsPolicy_any b A1 n1 c1 q _ HBT.out HP.out.fits).mono ?_; rintro e w2 ⟨rfl, hb2⟩; have HQ := Lib.hid (HQ.out.past hb2); have hT := Nx.refl HQ.out.src; have HBT := Lib.hid (HBT.out.past hb2)))
            clear hcB hcQ hb2
            go_cut [9] (fun t wx => ∃ yr : Int, t = .int .i64 yr ∧ (-1000 ≤ yr ∧ yr ≤ 1000) ∧ Hid (Q17 K g w wx Gb Gp b A1 n1 c1 p A2 k c2 xs Gq q))
            case first =>
              have hcB := Lib.hid (Blk.agg (cs := [.int .i64 b.first, .slice A1 n1 c1, .int .i64 b.rate]) HQ.out.l.e.bas 0 [.int .i64 b.first, .slice A1 n1 c1, .int .i64 b.rate] rfl)
              have hcQ := Lib.hid (Blk.agg (cs := [.int .i64 q.kind, .int .i64 q.age, .int .i64 q.years, .int .i64 q.sum, .int .i64 q.load]) HQ.out.q 0 [.int .i64 q.kind, .int .i64 q.age, .int .i64 q.years, .int .i64 q.sum, .int .i64 q.load] rfl)
              cases hz : polB b q
              · go_wp2_with fail
                go_meet
                case rel => exact ⟨0, rfl, by omega, HQ⟩
              · have P := Lib.hid (pol_ok hz)
                have hdb := dur_bound P.out
                have hdl := dur_low P.out
                generalize hdd : durP b q = dd at hdb hdl
                have HDD := Lib.hid hdd; clear hdd
                go_wp2_with (first | (refine wpList_load_agg rfl 28 _ rfl ⟨Gb, 0, none⟩ rfl [.int .i64 b.first, .slice A1 n1 c1, .int .i64 b.rate] hcB.out _ Tryz.underlying28 rfl Bas.size ?_) | (refine wpList_load_agg rfl 88 _ rfl ⟨Gq, 0, none⟩ rfl [.int .i64 q.kind, .int .i64 q.age, .int .i64 q.years, .int .i64 q.sum, .int .i64 q.load] hcQ.out _ Tryz.underlying88 rfl Policy.size ?_) | (go_at_call 136; refine (spec_l10Duration_any b A1 n1 c1 q _ HBT.out P.out).mono ?_; rw [HDD.out]; rintro e w2 ⟨rfl, hb2⟩; have HQ := Lib.hid (HQ.out.past hb2); have hT := Nx.refl HQ.out.src; have HBT := Lib.hid (HBT.out.past hb2)) | (go_at_call 102; refine (spec_l01Next_any K hK g _ _ _ (by first | exact hT | exact hT.alloc _ | exact (hT.alloc _).alloc _ | exact hT.drew)).mono ?_; rintro e w3 ⟨y, rfl, ⟨hy0, hy1⟩, hTy⟩; have HQ := Lib.hid (HQ.out.nxx hTy); clear hTy; have hT := Nx.refl HQ.out.src))
                go_meet
                case rel => exact ⟨y, rfl, by omega, HQ⟩
            case rest =>
              clear HQ hT
              obtain ⟨yr, rfl, hyr, HQ⟩ := hcut
              have hT := Nx.refl HQ.out.src
              go_upto_if 59 with (go_at_call 102; refine (spec_l01Next_any K hK g _ _ _ (by first | exact hT | exact hT.alloc _ | exact (hT.alloc _).alloc _ | exact hT.drew)).mono ?_; rintro e w3 ⟨x2, rfl, ⟨hx20, hx21⟩, hTy⟩; have HQ := Lib.hid (HQ.out.nxx hTy); clear hTy; have hT := Nx.refl HQ.out.src)
              go_cut [9] (fun t wx => ∃ yr : Int, t = .int .i64 yr ∧ (-1000 ≤ yr ∧ yr ≤ 1000) ∧ Hid (Q17 K g w wx Gb Gp b A1 n1 c1 p A2 k c2 xs Gq q))
              case first =>
                clear hx20 hx21
                go_wp2_with (go_at_call 80; refine (spec_l01Pick_new K hK g _ _ _ _ (by first | exact hT | exact hT.alloc _ | exact (hT.alloc _).alloc _ | exact hT.drew) (by rfl) (by decide) (by decide) (by rfl)).mono ?_; rintro e w3 ⟨z2, rfl, hz2, hTy⟩; simp only [OneOf, Value.int.injEq, true_and, or_false] at hz2; have HQ := Lib.hid (HQ.out.nxx hTy); clear hTy; have hT := Nx.refl HQ.out.src)
                all_goals
                  go_meet
                  case rel => exact ⟨_, rfl, by omega, HQ⟩
              case rest =>
                clear HQ hT hyr hx20 hx21
                obtain ⟨yr, rfl, hyr, HQ⟩ := hcut
                go_upto_region 17 with fail
                go_cut [10] (fun t wx => ∃ (Gh : Nat) (ct : Int), t = .pointer (some ⟨Gh, 0, none⟩) ∧ (0 ≤ ct ∧ ct ≤ 300) ∧ Gq < Gh ∧ Hid (Q17 K g w wx Gb Gp b A1 n1 c1 p A2 k c2 xs Gq q) ∧ Hid (Blk wx Gh 90 #[.int .i64 q.kind, .int .i64 q.age, .int .i64 q.years, .int .i64 q.sum, .int .i64 q.load, .int .i64 yr, .int .i64 ct]))
                case first =>
                  have s0 : wc.cell? ⟨Gq, 0, none⟩ = some (.int .i64 q.kind) := HQ.out.q.cell 0
                  have b0 : (wc.alloc (.cells #[.int .i64 0, .int .i64 0, .int .i64 0, .int .i64 0, .int .i64 0, .int .i64 0, .int .i64 0] 90)).cell? ⟨Gq, 0, none⟩ = some (.int .i64 q.kind) := (HQ.out.q.alloc _).cell 0
                  have s1 : wc.cell? ⟨Gq, 1, none⟩ = some (.int .i64 q.age) := HQ.out.q.cell 1
                  have b1 : (wc.alloc (.cells #[.int .i64 0, .int .i64 0, .int .i64 0, .int .i64 0, .int .i64 0, .int .i64 0, .int .i64 0] 90)).cell? ⟨Gq, 1, none⟩ = some (.int .i64 q.age) := (HQ.out.q.alloc _).cell 1
                  have s2 : wc.cell? ⟨Gq, 2, none⟩ = some (.int .i64 q.years) := HQ.out.q.cell 2
                  have b2 : (wc.alloc (.cells #[.int .i64 0, .int .i64 0, .int .i64 0, .int .i64 0, .int .i64 0, .int .i64 0, .int .i64 0] 90)).cell? ⟨Gq, 2, none⟩ = some (.int .i64 q.years) := (HQ.out.q.alloc _).cell 2
                  have s3 : wc.cell? ⟨Gq, 3, none⟩ = some (.int .i64 q.sum) := HQ.out.q.cell 3
                  have b3 : (wc.alloc (.cells #[.int .i64 0, .int .i64 0, .int .i64 0, .int .i64 0, .int .i64 0, .int .i64 0, .int .i64 0] 90)).cell? ⟨Gq, 3, none⟩ = some (.int .i64 q.sum) := (HQ.out.q.alloc _).cell 3
                  have s4 : wc.cell? ⟨Gq, 4, none⟩ = some (.int .i64 q.load) := HQ.out.q.cell 4
                  have b4 : (wc.alloc (.cells #[.int .i64 0, .int .i64 0, .int .i64 0, .int .i64 0, .int .i64 0, .int .i64 0, .int .i64 0] 90)).cell? ⟨Gq, 4, none⟩ = some (.int .i64 q.load) := (HQ.out.q.alloc _).cell 4
                  have HQz := Lib.hid (HQ.out.past ((Below.refl wc.heap.size wc).alloc (Nat.le_refl _) (.cells #[.int .i64 0, .int .i64 0, .int .i64 0, .int .i64 0, .int .i64 0, .int .i64 0, .int .i64 0] 90)))
                  have HZz := Lib.hid (Blk.new wc 90 #[.int .i64 0, .int .i64 0, .int .i64 0, .int .i64 0, .int .i64 0, .int .i64 0, .int .i64 0])
                  have hgz : wc.heap.size ≠ g := by have := HQ.out.l.e.nx.src.lt; omega
                  obtain ⟨Wz, hWz⟩ : ∃ Wz, wc.alloc (.cells #[.int .i64 0, .int .i64 0, .int .i64 0, .int .i64 0, .int .i64 0, .int .i64 0, .int .i64 0] 90) = Wz := ⟨_, rfl⟩
                  obtain ⟨Gz, hGz⟩ : ∃ Gz, wc.heap.size = Gz := ⟨_, rfl⟩
                  rw [hWz] at HQz HZz
                  rw [hGz] at HZz hgz
                  have HGQ := Lib.hid (show Gq < Gz by rw [← hGz]; exact HQ.out.q.lt)
                  have HAZ := Lib.hid (show ∀ x, blkOf A2 = some x → x ≠ Gz from fun x hx => by have := (HQ.out.l.res.blk_lt hx).2; omega)
                  have HWZ := Lib.hid hWz; have HGZ := Lib.hid hGz; clear hWz hGz
                  go_region_law (first | (go_simp; go_at_call 102; refine (spec_l01Next_any K hK g _ _ _ (by first | exact Nx.refl HQ.out.src | exact (Nx.refl HQ.out.src).drew)).mono ?_; rintro e w5 ⟨ct, rfl, ⟨hx50, hx51⟩, hT5⟩; have HQ5 := Lib.hid (HQ.out.nxx hT5); have a0 : (w5.alloc (.cells #[.int .i64 0, .int .i64 0, .int .i64 0, .int .i64 0, .int .i64 0, .int .i64 0, .int .i64 0] 90)).cell? ⟨Gq, 0, none⟩ = some (.int .i64 q.kind) := (HQ5.out.q.alloc _).cell 0; have a1 : (w5.alloc (.cells #[.int .i64 0, .int .i64 0, .int .i64 0, .int .i64 0, .int .i64 0, .int .i64 0, .int .i64 0] 90)).cell? ⟨Gq, 1, none⟩ = some (.int .i64 q.age) := (HQ5.out.q.alloc _).cell 1; have a2 : (w5.alloc (.cells #[.int .i64 0, .int .i64 0, .int .i64 0, .int .i64 0, .int .i64 0, .int .i64 0, .int .i64 0] 90)).cell? ⟨Gq, 2, none⟩ = some (.int .i64 q.years) := (HQ5.out.q.alloc _).cell 2; have a3 : (w5.alloc (.cells #[.int .i64 0, .int .i64 0, .int .i64 0, .int .i64 0, .int .i64 0, .int .i64 0, .int .i64 0] 90)).cell? ⟨Gq, 3, none⟩ = some (.int .i64 q.sum) := (HQ5.out.q.alloc _).cell 3; have a4 : (w5.alloc (.cells #[.int .i64 0, .int .i64 0, .int .i64 0, .int .i64 0, .int .i64 0, .int .i64 0, .int .i64 0] 90)).cell? ⟨Gq, 4, none⟩ = some (.int .i64 q.load) := (HQ5.out.q.alloc _).cell 4; have s0 : w5.cell? ⟨Gq, 0, none⟩ = some (.int .i64 q.kind) := HQ5.out.q.cell 0; have s1 : w5.cell? ⟨Gq, 1, none⟩ = some (.int .i64 q.age) := HQ5.out.q.cell 1; have s2 : w5.cell? ⟨Gq, 2, none⟩ = some (.int .i64 q.years) := HQ5.out.q.cell 2; have s3 : w5.cell? ⟨Gq, 3, none⟩ = some (.int .i64 q.sum) := HQ5.out.q.cell 3; have s4 : w5.cell? ⟨Gq, 4, none⟩ = some (.int .i64 q.load) := HQ5.out.q.cell 4) | (go_simp; rw [HWZ.out]; go_at_call 102; refine (spec_l01Next_any K hK g _ _ _ (by first | exact Nx.refl HQz.out.src | exact (Nx.refl HQz.out.src).drew)).mono ?_; rintro e w5 ⟨ct, rfl, ⟨hx50, hx51⟩, hT5⟩; have HQ5 := Lib.hid (HQz.out.nxx hT5); have HZ5 := Lib.hid (HZz.out.nx hT5 hgz); rw [HGZ.out]; have s0 : w5.cell? ⟨Gq, 0, none⟩ = some (.int .i64 q.kind) := HQ5.out.q.cell 0; have s1 : w5.cell? ⟨Gq, 1, none⟩ = some (.int .i64 q.age) := HQ5.out.q.cell 1; have s2 : w5.cell? ⟨Gq, 2, none⟩ = some (.int .i64 q.years) := HQ5.out.q.cell 2; have s3 : w5.cell? ⟨Gq, 3, none⟩ = some (.int .i64 q.sum) := HQ5.out.q.cell 3; have s4 : w5.cell? ⟨Gq, 4, none⟩ = some (.int .i64 q.load) := HQ5.out.q.cell 4; have zf0 : w5.frozen? ⟨Gz, 0, none⟩ = false := HZ5.out.frozen 0; have zc0 : w5.cell? ⟨Gz, 0, none⟩ = some (.int .i64 0) := HZ5.out.cell 0; have zf1 : w5.frozen? ⟨Gz, 1, none⟩ = false := HZ5.out.frozen 1; have zc1 : w5.cell? ⟨Gz, 1, none⟩ = some (.int .i64 0) := HZ5.out.cell 1; have zf2 : w5.frozen? ⟨Gz, 2, none⟩ = false := HZ5.out.frozen 2; have zc2 : w5.cell? ⟨Gz, 2, none⟩ = some (.int .i64 0) := HZ5.out.cell 2; have zf3 : w5.frozen? ⟨Gz, 3, none⟩ = false := HZ5.out.frozen 3; have zc3 : w5.cell? ⟨Gz, 3, none⟩ = some (.int .i64 0) := HZ5.out.cell 3; have zf4 : w5.frozen? ⟨Gz, 4, none⟩ = false := HZ5.out.frozen 4; have zc4 : w5.cell? ⟨Gz, 4, none⟩ = some (.int .i64 0) := HZ5.out.cell 4; have zf5 : w5.frozen? ⟨Gz, 5, none⟩ = false := HZ5.out.frozen 5; have zc5 : w5.cell? ⟨Gz, 5, none⟩ = some (.int .i64 0) := HZ5.out.cell 5; have zf6 : w5.frozen? ⟨Gz, 6, none⟩ = false := HZ5.out.frozen 6; have zc6 : w5.cell? ⟨Gz, 6, none⟩ = some (.int .i64 0) := HZ5.out.cell 6))
                  all_goals
                    first
                    | (have HZ9 := HZ5.out
                       obtain ⟨r1, r2⟩ := HQ5.out.seven HGQ.out HAZ.out HZ9 (.int .i64 q.kind) (.int .i64 q.age) (.int .i64 q.years) (.int .i64 q.sum) (.int .i64 q.load) (.int .i64 yr) (.int .i64 ct)
                       have R1 := Lib.hid r1
                       have R2 := Lib.hid r2
                       clear r1 r2 HZ9
                       go_wp2_with fail
                       go_meet
                       case rel => exact ⟨Gz, ct, rfl, by omega, HGQ.out, R1, R2⟩)
                    | (have HGH := Lib.hid HQ5.out.q.lt
                       go_wp2_with fail
                       go_meet
                       case rel => exact ⟨_, ct, rfl, by omega, HGH.out, Lib.hid (HQ5.out.past ((Below.refl _ _).alloc (Nat.le_refl _) _)), Lib.hid (Blk.new _ _ _)⟩)
                case rest =>
                  clear HQ HBT
                  obtain ⟨Gh, ct, rfl, hct, hqh, HQ, HH⟩ := hcut
                  have hT := Nx.refl HQ.out.src
                  have HBT := Lib.hid (HQ.out.l.e.basT HBS.out)
                  have HNG := Lib.hid (show Gh ≠ g by have h1 := HQ.out.l.e.gw; have h2 := HQ.out.l.e.wb; have h3 := HQ.out.l.e.bp; have h4 := HQ.out.pq; omega)
                  go_upto_region 18 with fail
                  go_cut [77] (fun t wx => ∃ z : Bool, t = .bool z ∧ Hid (Q17 K g w wx Gb Gp b A1 n1 c1 p A2 k c2 xs Gq q) ∧ Hid (Blk wx Gh 90 #[.int .i64 q.kind, .int .i64 q.age, .int .i64 q.years, .int .i64 q.sum, .int .i64 q.load, .int .i64 yr, .int .i64 ct]))
                  case first =>
                    have hcB := Lib.hid (Blk.agg (cs := [.int .i64 b.first, .slice A1 n1 c1, .int .i64 b.rate]) HQ.out.l.e.bas 0 [.int .i64 b.first, .slice A1 n1 c1, .int .i64 b.rate] rfl)
                    have hcQ := Lib.hid (Blk.agg (cs := [.int .i64 q.kind, .int .i64 q.age, .int .i64 q.years, .int .i64 q.sum, .int .i64 q.load]) HQ.out.q 0 [.int .i64 q.kind, .int .i64 q.age, .int .i64 q.years, .int .i64 q.sum, .int .i64 q.load] rfl)
                    cases hz : (resCode b q yr == 0)
                    all_goals
                      go_wp2_with (first | (refine wpList_load_agg rfl 28 _ rfl ⟨Gb, 0, none⟩ rfl [.int .i64 b.first, .slice A1 n1 c1, .int .i64 b.rate] hcB.out _ Tryz.underlying28 rfl Bas.size ?_) | (refine wpList_load_agg rfl 88 _ rfl ⟨Gq, 0, none⟩ rfl [.int .i64 q.kind, .int .i64 q.age, .int .i64 q.years, .int .i64 q.sum, .int .i64 q.load] hcQ.out _ Tryz.underlying88 rfl Policy.size ?_) | (go_at_call 137; refine (spec_l11Code_any b A1 n1 c1 q yr _ HBT.out HP.out.fits (in64_lt (by omega))).mono ?_; rintro e w2 ⟨rfl, hb2⟩; have HH := Lib.hid (HH.out.below' hb2); have HQ := Lib.hid (HQ.out.past hb2); have hT := Nx.refl HQ.out.src) | (go_at_call 102; refine (spec_l01Next_any K hK g _ _ _ hT).mono ?_; rintro e w3 ⟨y, rfl, ⟨hy0, hy1⟩, hTy⟩; have HH := Lib.hid (HH.out.nx hTy HNG.out); have HQ := Lib.hid (HQ.out.nxx hTy)))
                      go_meet
                      case rel => exact ⟨_, rfl, HQ, HH⟩
                  case rest =>
                    clear HQ hT HH HBT
                    obtain ⟨z, rfl, HQ, HH⟩ := hcut
                    have HPF := Lib.hid (show Holding.fits ⟨q.kind, q.age, q.years, q.sum, q.load, yr, ct⟩ from by
                      obtain ⟨f1, f2, f3, f4, f5⟩ := HP.out.fits
                      exact ⟨f1, f2, f3, f4, f5, in64_lt (x := yr) (by omega), in64_lt (x := ct) (by omega)⟩)
                    cases z
                    · go_wp2_with fail
                      go_roundg m
                      case measure => omega
                      case rel => exact ⟨A2, k, c2, xs, by go_num, rfl, by omega, Lib.hid HQ.out.l⟩
                    · have hcH := Lib.hid (Blk.agg (cs := [.int .i64 q.kind, .int .i64 q.age, .int .i64 q.years, .int .i64 q.sum, .int .i64 q.load, .int .i64 yr, .int .i64 ct]) HH.out 0 [.int .i64 q.kind, .int .i64 q.age, .int .i64 q.years, .int .i64 q.sum, .int .i64 q.load, .int .i64 yr, .int .i64 ct] rfl)
                      go_wp2_with (first | (refine wpList_load_agg rfl 90 _ rfl ⟨Gh, 0, none⟩ rfl [.int .i64 q.kind, .int .i64 q.age, .int .i64 q.years, .int .i64 q.sum, .int .i64 q.load, .int .i64 yr, .int .i64 ct] hcH.out _ Tryz.underlying90 rfl Holding.size ?_) | (at_builtin; refine wpList_append_row_at _ rfl _ _ _ rfl w.heap.size 90 i0 _ 7 56 Tryz.underlying29 HI.out.1 HI.out.2.1 HI.out.2.2.1 HI.out.2.2.2 rfl (by decide) (by decide) _ _ _ _ rfl HQ.out.l.res [.int .i64 _, .int .i64 _, .int .i64 _, .int .i64 _, .int .i64 _, .int .i64 _, .int .i64 _] _ rfl rfl (by simp [Value.oneCell']) (by omega) (by have := HQ.out.l.e.nx.size; omega) ?_; intro A3 c3 w5 hR5 hb5 hk5 ho5))
                      have HL := Lib.hid (HQ.out.l.app hR5 hb5 hk5 (or_blk ho5 (Nat.le_succ _)) HPF.out)
                      clear hR5 hb5 hk5 ho5
                      go_wp2_with fail
                      go_roundg m
                      case measure => omega
                      case rel => exact ⟨A3, k + 1, c3, _, by go_num, rfl, by omega, HL⟩
end Go.Proofs.YtbjdbpdgacfcpaaGreat
end
