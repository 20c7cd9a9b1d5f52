/- Parts of a proof, one after another: DrawY, DrawG, DrawLaw, Likes, Held, LikesT, LikesH, AgeP. No condition. -/
import Derived.Test.YtbjdbpdgacfcpaaK0
import Derived.Test.YtbjdbpdgacfcpaaK1
import Derived.Test.YtbjdbpdgacfcpaaK2
import Derived.Test.YtbjdbpdgacfcpaaK6
import Derived.Test.YtbjdbpdgacfcpaaK10
import Derived.Test.YtbjdbpdgacfcpaaK12
import Derived.Deep.RegionLaw
/- Draws of the arguments of laws on portfolios, with one more list (printed by drawl.py). -/
section
namespace Go.Proofs.Ytbjdbpdgacfcpaa
open Go.RowKit Go.BigFrame

/-- the boxes of a draw with one more list -/
structure D17 (K : Code) (g B : Nat) (w W : World) (Gb : Nat) (b : Bas) (A : Option Addr) (n c : Nat) (A2 : Option Addr) (k c2 : Nat) (xs : List Holding) (t : TypeId) (sz : Nat) (A3 : Option Addr) (m c3 : Nat) (rows : List (List Value)) : Prop where
  z : Blk W w.heap.size 28 #[.int .i64 0, .slice none 0 0, .int .i64 0]
  bas : Blk W Gb 28 #[.int .i64 b.first, .slice A n c, .int .i64 b.rate]
  pb : PB B W b A n c A2 k c2 xs
  res : Res B W t sz A3 m c3 rows
  al : ∀ x, blkOf A3 = some x → Gb < x
  ag : ∀ x, (A = some ⟨x, 0, none⟩ ∨ A2 = some ⟨x, 0, none⟩) → x < Gb
  src : Src K g W
  bl : Below w.heap.size w W
  o1 : w.heap.size < g
  o2 : g < B
  o3 : B ≤ Gb
namespace D17
variable {K : Code} {g B : Nat} {w W W' : World} {Gb : Nat} {b : Bas} {A : Option Addr} {n c : Nat} {A2 : Option Addr} {k c2 : Nat} {xs : List Holding} {t : TypeId} {sz : Nat} {A3 : Option Addr} {m c3 : Nat} {rows : List (List Value)}
theorem nxx (h : D17 K g B w W Gb b A n c A2 k c2 xs t sz A3 m c3 rows) (hN : Nx K g W W') : D17 K g B w W' Gb b A n c A2 k c2 xs t sz A3 m c3 rows := by
  have h1 := h.o1; have h2 := h.o2; have h3 := h.o3
  exact { h with z := h.z.nx hN (by omega), bas := h.bas.nx hN (by omega), pb := h.pb.nxx hN h2, res := h.res.nx hN h2, src := hN.src, bl := h.bl.trans (hN.below.mono (by omega)) }
theorem past (h : D17 K g B w W Gb b A n c A2 k c2 xs t sz A3 m c3 rows) (hb : Below W.heap.size W W') : D17 K g B w W' Gb b A n c A2 k c2 xs t sz A3 m c3 rows :=
  { h with z := h.z.below' hb, bas := h.bas.below' hb, pb := h.pb.past hb, res := h.res.past hb, src := h.src.past hb, bl := h.bl.trans (hb.mono h.bl.size) }
theorem hB (h : D17 K g B w W Gb b A n c A2 k c2 xs t sz A3 m c3 rows) : B ≤ W.heap.size := by
  have h1 := h.o3; have h2 := h.bas.lt; omega
/-- the list has grown -/
theorem app (h : D17 K g B w W Gb b A n c A2 k c2 xs t sz A3 m c3 rows) {A5 : Option Addr} {m5 c5 : Nat} {rows5 : List (List Value)} (hR : Res B W' t sz A5 m5 c5 rows5) (hb : Below B W W') (hk : KeptBut W W' A3) (ho : ∀ x, blkOf A5 = some x → blkOf A3 = some x ∨ W.heap.size ≤ x) :
    D17 K g B w W' Gb b A n c A2 k c2 xs t sz A5 m5 c5 rows5 := by
  have h1 := h.o1; have h2 := h.o2; have h3 := h.o3; have h4 := h.bas.lt
  have key : ∀ x, x ≤ Gb → W'.heap[x]? = W.heap[x]? := fun x hx => hk x (by omega) (fun e => by have := h.al x e.symm; omega)
  refine { h with z := (key _ (by omega)).trans h.z, bas := (key _ (Nat.le_refl _)).trans h.bas, pb := { h.pb with liv := h.pb.liv.keep fun a ha => key a (Nat.le_of_lt (h.ag a (.inl ha))), res := h.pb.res.keep fun a ha => key a (Nat.le_of_lt (h.ag a (.inr ha))) }, res := hR, al := fun x hx => ?_, src := ?_, bl := h.bl.trans (hb.mono (by omega)) }
  · rcases ho x hx with ho | ho
    · exact h.al x ho
    · omega
  · obtain ⟨p, s, hk', hp, hs⟩ := h.src.blk
    exact ⟨h.src.rd.below (hb.mono (by omega)), p, s, (key g (by omega)).trans hk', hp, hs⟩
/-- the result's box is filled -/
theorem fin (h : D17 K g B w W Gb b A n c A2 k c2 xs t sz A3 m c3 rows) :
    Blk (((W.setCell ⟨w.heap.size, 0, none⟩ (.int .i64 b.first)).setCell ⟨w.heap.size, 1, none⟩ (.slice A n c)).setCell ⟨w.heap.size, 2, none⟩ (.int .i64 b.rate)) w.heap.size 28 #[.int .i64 b.first, .slice A n c, .int .i64 b.rate] ∧
    PB B (((W.setCell ⟨w.heap.size, 0, none⟩ (.int .i64 b.first)).setCell ⟨w.heap.size, 1, none⟩ (.slice A n c)).setCell ⟨w.heap.size, 2, none⟩ (.int .i64 b.rate)) b A n c A2 k c2 xs ∧
    Res B (((W.setCell ⟨w.heap.size, 0, none⟩ (.int .i64 b.first)).setCell ⟨w.heap.size, 1, none⟩ (.slice A n c)).setCell ⟨w.heap.size, 2, none⟩ (.int .i64 b.rate)) t sz A3 m c3 rows ∧
    Below w.heap.size w (((W.setCell ⟨w.heap.size, 0, none⟩ (.int .i64 b.first)).setCell ⟨w.heap.size, 1, none⟩ (.slice A n c)).setCell ⟨w.heap.size, 2, none⟩ (.int .i64 b.rate)) := by
  have h1 := h.o1; have h2 := h.o2
  have hz : w.heap.size < B := by omega
  refine ⟨by simpa using ((h.z.set_ 0 (.int .i64 b.first)).set_ 1 (.slice A n c)).set_ 2 (.int .i64 b.rate), ((h.pb.low hz 0 _).low hz 1 _).low hz 2 _, ((h.res.low hz 0 _).low hz 1 _).low hz 2 _, ((h.bl.setCell (p := ⟨w.heap.size, 0, none⟩) (Nat.le_refl _) _).setCell (p := ⟨w.heap.size, 1, none⟩) (Nat.le_refl _) _).setCell (p := ⟨w.heap.size, 2, none⟩) (Nat.le_refl _) _⟩
end D17
set_option maxRecDepth 100000 in
set_option maxHeartbeats 8000000 in
theorem spec_DrawAddBonuses_any (K : Code) (hK : K.Ok) (w : World) (hX : Rd w w.heap.size K.A 1 (byteRows K.bs)) :
    Calls Try.prog 9 #[.slice K.A K.n K.c] w fun e w' => ∃ (b : Bas) (A : Option Addr) (n c : Nat) (A2 : Option Addr) (k c2 : Nat) (xs : List Holding) (A3 : Option Addr) (m c3 : Nat), e = .returned (.tuple #[.agg #[.int .i64 b.first, .slice A n c, .int .i64 b.rate], .slice A2 k c2, .slice A3 m c3]) ∧ PB w.heap.size w' b A n c A2 k c2 xs ∧ IntsBy w.heap.size w' A3 m c3 (-1) 1000000001 ∧ m ≤ 200 ∧ Below w.heap.size w w' := by
  have hb0 : Below w.heap.size w (w.alloc (.cells #[.int .i64 0, .slice none 0 0, .int .i64 0] 28)) := (Below.refl _ w).alloc (Nat.le_refl _) _
  have HZ0 := Lib.hid (Blk.new w 28 #[.int .i64 0, .slice none 0 0, .int .i64 0])
  have hX := hX.past hb0
  have HBW := Lib.hid hb0; clear hb0
  have H1 := Lib.hid (show w.heap.size + 1 ≤ (w.alloc (.cells #[.int .i64 0, .slice none 0 0, .int .i64 0] 28)).heap.size by simp)
  obtain ⟨i0, hi0, hz0, hz1, hz2⟩ := info_parts Int64.info
  have HI := Lib.hid (And.intro hi0 (And.intro hz0 (And.intro hz1 hz2))); clear hi0 hz0 hz1 hz2
  go_enter Try.func9, Try.ntmps9
  go_wp2_with fail
  generalize w.alloc (.cells #[.int .i64 0, .slice none 0 0, .int .i64 0] 28) = Wa at HZ0 HBW H1 hX ⊢
  refine (spec_l01From_any K hK _ hX).mono ?_
  rintro e w1 ⟨g, rfl, hg, hb, hS⟩
  clear hX
  have hT := Nx.refl hS
  go_upto_region 3 with (go_at_call 55; refine (spec_l17Draw_pb K hK g _ _ hT).mono ?_; rintro e w2 ⟨b, A1, n1, c1, A2, k, c2, xs, rfl, hP, hT⟩)
  have HQ := Lib.hid (show D17 K g w1.heap.size w ((w2.alloc (.cells #[.int .i64 b.first, .slice A1 n1 c1, .int .i64 b.rate] 28)).alloc (.cells #[] 2)) w2.heap.size b A1 n1 c1 A2 k c2 xs 2 1 (some ⟨w2.heap.size + 1, 0, none⟩) 0 0 [] from by
    have hsz := H1.out
    have hg1 : g < w1.heap.size := hS.lt
    have h12 := hT.size
    have hn0 : w.heap.size ≠ g := by omega
    have hb1 := (Below.refl w2.heap.size w2).alloc (Nat.le_refl _) (.cells #[.int .i64 b.first, .slice A1 n1 c1, .int .i64 b.rate] 28)
    have hb2 := hb1.alloc (show w2.heap.size ≤ (w2.alloc (.cells #[.int .i64 b.first, .slice A1 n1 c1, .int .i64 b.rate] 28)).heap.size by simp) (.cells #[] 2)
    refine ⟨((HZ0.out.below' hb).nx hT hn0).below' hb2, (Blk.new w2 _ _).alloc _, hP.past hb2, Res.zero_at (by simp; omega) (by simp), fun x hx => ?_, fun x hx => ?_, hT.src.past hb2, (HBW.out.trans ((hb.mono (by omega)).trans (hT.below.mono (by omega)))).trans (hb2.mono (by have := HBW.out.size; have := hb.size; omega)), by omega, hg1, h12⟩
    · have hx2 : w2.heap.size + 1 = x := by injection hx
      omega
    · rcases hx with hx | hx
      · exact (hP.liv.lt hx).2
      · exact (hP.res.lt hx).2)
  have hkl := hP.len
  have HXL := Lib.hid hP.xlen
  have HFI := Lib.hid hP.fits
  clear hP hT hb HZ0 HBW
  go_wp2_with fail
  generalize (w2.alloc (.cells #[.int .i64 b.first, .slice A1 n1 c1, .int .i64 b.rate] 28)).alloc (.cells #[] 2) = W0 at HQ ⊢
  generalize w2.heap.size + 1 = Gl at HQ ⊢
  generalize w2.heap.size = Gb at HQ ⊢
  go_loopg [8, 9] k (fun nn o i wr => ∃ (A3 : Option Addr) (m c3 j : Nat) (ys : List Int), i = .int .i64 (j : Int) ∧ j + nn = k ∧ o = .slice A3 m c3 ∧ m ≤ j ∧ Hid (D17 K g w1.heap.size w wr Gb b A1 n1 c1 A2 k c2 xs 2 1 A3 m c3 (intRows ys)) ∧ Hid (∀ y ∈ ys, (-1) ≤ y ∧ y ≤ 1000000001))
  case atStart => exact ⟨_, 0, 0, 0, [], rfl, by omega, rfl, by omega, HQ, Lib.hid (by simp)⟩
  case round =>
    clear HQ
    obtain ⟨A3, m, c3, j, ys, rfl, hj, rfl, hm, HQ, HY⟩ := hrel
    have hT := Nx.refl HQ.out.src
    cases gk with
    | zero =>
      have hjk : j = k := by omega
      have hji : ¬ (j : Int) < (k : Int) := by omega
      go_upto_if 43 with (go_at_call 58; refine (spec_l01Next_any K hK g _ _ _ (by first | exact hT | exact hT.alloc _ | exact (hT.alloc _).alloc _ | exact hT.drew)).mono ?_; rintro e w3 ⟨y, rfl, ⟨hy0, hy1⟩, hTy⟩; have HQ := Lib.hid (HQ.out.nxx hTy); clear hTy; have hT := Nx.refl HQ.out.src)
      go_cut [8] (fun l wx => ∃ (A3 : Option Addr) (m3 c3 : Nat) (ys : List Int), l = .slice A3 m3 c3 ∧ m3 ≤ 101 ∧ Hid (D17 K g w1.heap.size w wx Gb b A1 n1 c1 A2 k c2 xs 2 1 A3 m3 c3 (intRows ys)) ∧ Hid (∀ y ∈ ys, (-1) ≤ y ∧ y ≤ 1000000001))
      case first =>
        go_wp2_with (at_builtin; refine wpList_append_row_at _ rfl _ _ _ rfl w1.heap.size 2 i0 _ 1 8 Try.underlying24 HI.out.1 HI.out.2.1 HI.out.2.2.1 HI.out.2.2.2 rfl (by decide) (by decide) _ _ _ _ rfl HQ.out.res [.int .i64 _] _ rfl rfl (by simp [Value.oneCell']) (by omega) HQ.out.hB ?_; intro A5 c5 w5 hR5 hb5 hk5 ho5)
        · rw [← intRows_snoc] at hR5
          have HQ6 := Lib.hid (HQ.out.app hR5 hb5 hk5 (or_blk ho5 (Nat.le_succ _)))
          go_meet
          case rel => exact ⟨A5, m + 1, c5, _, rfl, by omega, HQ6, Lib.hid (ints_snoc HY.out (by omega))⟩
        · go_meet
          case rel => exact ⟨A3, m, c3, ys, rfl, by omega, HQ, HY⟩
      case rest =>
        clear HQ hT HY
        obtain ⟨A3, m3, c3, ys, rfl, hm3, HQ, HY⟩ := hcut
        have b0 : wc.cell? ⟨Gb, 0, none⟩ = some (.int .i64 b.first) := HQ.out.bas.cell 0
        have b1 : wc.cell? ⟨Gb, 1, none⟩ = some (.slice A1 n1 c1) := HQ.out.bas.cell 1
        have b2 : wc.cell? ⟨Gb, 2, none⟩ = some (.int .i64 b.rate) := HQ.out.bas.cell 2
        have zc0 : wc.cell? ⟨w.heap.size, 0, none⟩ = some (.int .i64 0) := HQ.out.z.cell 0
        have zf0 : wc.frozen? ⟨w.heap.size, 0, none⟩ = false := HQ.out.z.frozen 0
        have zc1 : wc.cell? ⟨w.heap.size, 1, none⟩ = some (.slice none 0 0) := HQ.out.z.cell 1
        have zf1 : wc.frozen? ⟨w.heap.size, 1, none⟩ = false := HQ.out.z.frozen 1
        have zc2 : wc.cell? ⟨w.heap.size, 2, none⟩ = some (.int .i64 0) := HQ.out.z.cell 2
        have zf2 : wc.frozen? ⟨w.heap.size, 2, none⟩ = false := HQ.out.z.frozen 2
        have hcB := Lib.hid (Blk.agg (cs := [.int .i64 b.first, .slice A1 n1 c1, .int .i64 b.rate]) HQ.out.bas 0 [.int .i64 b.first, .slice A1 n1 c1, .int .i64 b.rate] rfl)
        go_wp2_with (refine wpList_load_agg rfl 28 _ rfl ⟨Gb, 0, none⟩ rfl [.int .i64 b.first, .slice A1 n1 c1, .int .i64 b.rate] hcB.out _ Try.underlying28 rfl Bas.size ?_)
        obtain ⟨hz9, hp9, hr9, hb9⟩ := HQ.out.fin
        clear zc0 zf0 zc1 zf1 zc2 zf2 b0 b1 b2
        generalize ((wc.setCell ⟨w.heap.size, 0, none⟩ (.int .i64 b.first)).setCell ⟨w.heap.size, 1, none⟩ (.slice A1 n1 c1)).setCell ⟨w.heap.size, 2, none⟩ (.int .i64 b.rate) = W9 at hz9 hp9 hr9 hb9 ⊢
        have q0 : W9.cell? ⟨w.heap.size, 0, none⟩ = some (.int .i64 b.first) := hz9.cell 0
        have q1 : W9.cell? ⟨w.heap.size, 1, none⟩ = some (.slice A1 n1 c1) := hz9.cell 1
        have q2 : W9.cell? ⟨w.heap.size, 2, none⟩ = some (.int .i64 b.rate) := hz9.cell 2
        refine bodyPost_ret (v := .tuple #[.agg #[.int .i64 b.first, .slice A1 n1 c1, .int .i64 b.rate], .slice A2 k c2, .slice A3 m3 c3]) (by simp [results, Try.results9, go_sem, q0, q1, q2]) rfl ?_
        have hwB : w.heap.size ≤ w1.heap.size := by have h1 := HQ.out.o1; have h2 := HQ.out.o2; omega
        exact ⟨b, A1, n1, c1, A2, k, c2, xs, A3, m3, c3, rfl, hp9.more hwB, ⟨_, hr9.more hwB, HY.out⟩, by omega, hb9⟩
    | succ gn =>
      have hji : (j : Int) < (k : Int) := by omega
      go_wp2_with (first | (go_at_call 57; refine (spec_l19Amount_any _ _).mono ?_; rintro e w' ⟨rfl, rfl⟩) | (go_at_call 56; refine (spec_l19DrawAmount_any K hK g _ _ (by first | exact hT | exact hT.alloc _ | exact hT.drew)).mono ?_; rintro e w3 ⟨x, rfl, hx, hTy⟩; have HQ := Lib.hid (HQ.out.nxx hTy); clear hTy; have hT := Nx.refl HQ.out.src) | (go_at_call 58; refine (spec_l01Next_any K hK g _ _ _ (by first | exact hT | exact hT.alloc _ | exact (hT.alloc _).alloc _ | exact hT.drew)).mono ?_; rintro e w3 ⟨y, rfl, ⟨hy0, hy1⟩, hTy⟩; have HQ := Lib.hid (HQ.out.nxx hTy); clear hTy; have hT := Nx.refl HQ.out.src) | (at_builtin; refine wpList_append_row_at _ rfl _ _ _ rfl w1.heap.size 2 i0 _ 1 8 Try.underlying24 HI.out.1 HI.out.2.1 HI.out.2.2.1 HI.out.2.2.2 rfl (by decide) (by decide) _ _ _ _ rfl HQ.out.res [.int .i64 _] _ rfl rfl (by simp [Value.oneCell']) (by omega) HQ.out.hB ?_; intro A5 c5 w5 hR5 hb5 hk5 ho5))
      all_goals
        rw [← intRows_snoc] at hR5
        have HQ6 := Lib.hid (HQ.out.app hR5 hb5 hk5 (or_blk ho5 (Nat.le_succ _)))
        go_roundg gn
        case measure => omega
        case rel => exact ⟨A5, m + 1, c5, j + 1, _, by go_num, by omega, rfl, by omega, HQ6, Lib.hid (ints_snoc HY.out (by omega))⟩
end Go.Proofs.Ytbjdbpdgacfcpaa
end

/- Draws of the arguments of laws on portfolios, with one more list (printed by drawl.py). -/
section
namespace Go.Proofs.Ytbjdbpdgacfcpaa
open Go.RowKit Go.BigFrame

theorem wrap_in64 (z : Int) : -9223372036854775808 ≤ wrap64 z ∧ wrap64 z ≤ 9223372036854775807 := by have h := in64_of_wf (wrap64_wf z); exact h
theorem Res.at0 {B : Nat} {w : World} {t : TypeId} {g n c : Nat} {ys : List Int} (h : Res B w t 1 (some ⟨g, 0, none⟩) n c (intRows ys)) {y : Int} (hy : ys[0]? = some y) :
    w.cell? ⟨g, 0, none⟩ = some (.int .i64 y) ∧ w.frozen? ⟨g, 0, none⟩ = false ∧ ∀ v : Int, Res B (w.setCell ⟨g, 0, none⟩ (.int .i64 v)) t 1 (some ⟨g, 0, none⟩) n c (intRows (ys.set 0 v)) := by
  obtain ⟨g', h1, _, _, h2, h3, h4⟩ := h.putInt hy
  injection h1 with h1; injection h1 with h1; subst h1
  exact ⟨h2, h3, h4⟩
theorem ints_set0 {xs : List Int} {v lo hi : Int} (h : ∀ x ∈ xs, lo ≤ x ∧ x ≤ hi) (hv : lo ≤ v ∧ v ≤ hi) : ∀ x ∈ xs.set 0 v, lo ≤ x ∧ x ≤ hi := by
  intro x hx
  rcases List.mem_or_eq_of_mem_set hx with h' | h'
  · exact h x h'
  · rw [h']; exact hv
set_option maxRecDepth 100000 in
set_option maxHeartbeats 8000000 in
theorem spec_DrawAgePortfolio_any (K : Code) (hK : K.Ok) (w : World) (hX : Rd w w.heap.size K.A 1 (byteRows K.bs)) :
    Calls Try.prog 48 #[.slice K.A K.n K.c] w fun e w' => ∃ (b : Bas) (A : Option Addr) (n c : Nat) (A2 : Option Addr) (k c2 : Nat) (xs : List Holding) (A3 : Option Addr) (m c3 : Nat), e = .returned (.tuple #[.agg #[.int .i64 b.first, .slice A n c, .int .i64 b.rate], .slice A2 k c2, .slice A3 m c3]) ∧ PB w.heap.size w' b A n c A2 k c2 xs ∧ IntsBy w.heap.size w' A3 m c3 (-9223372036854775808) 9223372036854775807 ∧ m ≤ 200 ∧ Below w.heap.size w w' := by
  have hb0 : Below w.heap.size w (w.alloc (.cells #[.int .i64 0, .slice none 0 0, .int .i64 0] 28)) := (Below.refl _ w).alloc (Nat.le_refl _) _
  have HZ0 := Lib.hid (Blk.new w 28 #[.int .i64 0, .slice none 0 0, .int .i64 0])
  have hX := hX.past hb0
  have HBW := Lib.hid hb0; clear hb0
  have H1 := Lib.hid (show w.heap.size + 1 ≤ (w.alloc (.cells #[.int .i64 0, .slice none 0 0, .int .i64 0] 28)).heap.size by simp)
  obtain ⟨i0, hi0, hz0, hz1, hz2⟩ := info_parts Int64.info
  have HI := Lib.hid (And.intro hi0 (And.intro hz0 (And.intro hz1 hz2))); clear hi0 hz0 hz1 hz2
  go_enter Try.func48, Try.ntmps48
  go_wp2_with fail
  generalize w.alloc (.cells #[.int .i64 0, .slice none 0 0, .int .i64 0] 28) = Wa at HZ0 HBW H1 hX ⊢
  refine (spec_l01From_any K hK _ hX).mono ?_
  rintro e w1 ⟨g, rfl, hg, hb, hS⟩
  clear hX
  have hT := Nx.refl hS
  go_upto_region 3 with (go_at_call 55; refine (spec_l17Draw_pb K hK g _ _ hT).mono ?_; rintro e w2 ⟨b, A1, n1, c1, A2, k, c2, xs, rfl, hP, hT⟩)
  have HQ := Lib.hid (show D17 K g w1.heap.size w ((w2.alloc (.cells #[.int .i64 b.first, .slice A1 n1 c1, .int .i64 b.rate] 28)).alloc (.cells #[] 2)) w2.heap.size b A1 n1 c1 A2 k c2 xs 2 1 (some ⟨w2.heap.size + 1, 0, none⟩) 0 0 [] from by
    have hsz := H1.out
    have hg1 : g < w1.heap.size := hS.lt
    have h12 := hT.size
    have hn0 : w.heap.size ≠ g := by omega
    have hb1 := (Below.refl w2.heap.size w2).alloc (Nat.le_refl _) (.cells #[.int .i64 b.first, .slice A1 n1 c1, .int .i64 b.rate] 28)
    have hb2 := hb1.alloc (show w2.heap.size ≤ (w2.alloc (.cells #[.int .i64 b.first, .slice A1 n1 c1, .int .i64 b.rate] 28)).heap.size by simp) (.cells #[] 2)
    refine ⟨((HZ0.out.below' hb).nx hT hn0).below' hb2, (Blk.new w2 _ _).alloc _, hP.past hb2, Res.zero_at (by simp; omega) (by simp), fun x hx => ?_, fun x hx => ?_, hT.src.past hb2, (HBW.out.trans ((hb.mono (by omega)).trans (hT.below.mono (by omega)))).trans (hb2.mono (by have := HBW.out.size; have := hb.size; omega)), by omega, hg1, h12⟩
    · have hx2 : w2.heap.size + 1 = x := by injection hx
      omega
    · rcases hx with hx | hx
      · exact (hP.liv.lt hx).2
      · exact (hP.res.lt hx).2)
  have hkl := hP.len
  have HXL := Lib.hid hP.xlen
  have HFI := Lib.hid hP.fits
  clear hP hT hb HZ0 HBW
  go_wp2_with fail
  generalize (w2.alloc (.cells #[.int .i64 b.first, .slice A1 n1 c1, .int .i64 b.rate] 28)).alloc (.cells #[] 2) = W0 at HQ ⊢
  generalize w2.heap.size + 1 = Gl at HQ ⊢
  generalize w2.heap.size = Gb at HQ ⊢
  go_loopg [8, 9] k (fun nn o i wr => ∃ (A3 : Option Addr) (m c3 j : Nat) (ys : List Int), i = .int .i64 (j : Int) ∧ j + nn = k ∧ o = .slice A3 m c3 ∧ m = j ∧ Hid (D17 K g w1.heap.size w wr Gb b A1 n1 c1 A2 k c2 xs 2 1 A3 m c3 (intRows ys)) ∧ Hid (∀ y ∈ ys, (-9223372036854775808) ≤ y ∧ y ≤ 9223372036854775807))
  case atStart => exact ⟨_, 0, 0, 0, [], rfl, by omega, rfl, by omega, HQ, Lib.hid (by simp)⟩
  case round =>
    clear HQ
    obtain ⟨A3, m, c3, j, ys, rfl, hj, rfl, rfl, HQ, HY⟩ := hrel
    have hT := Nx.refl HQ.out.src
    cases gk with
    | zero =>
      have hjk : k = m := by omega
      have hji : ¬ (m : Int) < (k : Int) := by omega
      obtain rfl : k = m := by omega
      clear hj hjk
      go_upto_block 2 with (go_at_call 58; refine (spec_l01Next_any K hK g _ _ _ (by first | exact hT | exact hT.alloc _ | exact (hT.alloc _).alloc _ | exact hT.drew)).mono ?_; rintro e w3 ⟨y, rfl, ⟨hy0, hy1⟩, hTy⟩; have HQ := Lib.hid (HQ.out.nxx hTy); clear hTy; have hT := Nx.refl HQ.out.src)
      go_cut [8] (fun l wx => ∃ (A3 : Option Addr) (m3 c3 : Nat) (ys : List Int), l = .slice A3 m3 c3 ∧ m3 ≤ 101 ∧ Hid (D17 K g w1.heap.size w wx Gb b A1 n1 c1 A2 k c2 xs 2 1 A3 m3 c3 (intRows ys)) ∧ Hid (∀ y ∈ ys, (-9223372036854775808) ≤ y ∧ y ≤ 9223372036854775807))
      case first =>
        have hT := Nx.refl HQ.out.src
        cases hy0 : (y == 0)
        rotate_left
        · go_wp2_with (at_builtin; refine wpList_append_row_at _ rfl _ _ _ rfl w1.heap.size 2 i0 _ 1 8 Try.underlying24 HI.out.1 HI.out.2.1 HI.out.2.2.1 HI.out.2.2.2 rfl (by decide) (by decide) _ _ _ _ rfl HQ.out.res [.int .i64 _] _ rfl rfl (by simp [Value.oneCell']) (by omega) HQ.out.hB ?_; intro A5 c5 w5 hR5 hb5 hk5 ho5)
          have h9 := hR5
          rw [← intRows_snoc] at h9
          have HQ6 := Lib.hid (HQ.out.app h9 hb5 hk5 (or_blk ho5 (Nat.le_succ _)))
          go_meet
          case rel => exact ⟨A5, k + 1, c5, _, rfl, by omega, HQ6, Lib.hid (ints_snoc (v := 0) HY.out (by omega))⟩
        cases hy1 : (y == 1)
        · go_wp2_with fail
          go_meet
          case rel => exact ⟨A3, k, c3, ys, rfl, by omega, HQ, HY⟩
        by_cases hm0 : k = 0
        · have hm0' : decide ((0 : Int) < (k : Int)) = false := by simp [hm0]
          have hm0'' : decide (0 < k) = false := by simp [hm0]
          have hm0q : ¬ 0 < k := by omega
          have HM := Lib.hid hm0; clear hm0
          go_wp2_with fail
          go_meet
          case rel => exact ⟨A3, k, c3, ys, rfl, by omega, HQ, HY⟩
        have hm1 : decide ((0 : Int) < (k : Int)) = true := by simp; omega
        have hm1' : 0 < k := by omega
        have hm1i : (0 : Int) < (k : Int) := by omega
        obtain ⟨x, hx⟩ := get_of_lt (xs := xs) (k := 0) (by rw [HXL.out]; omega)
        obtain ⟨y1, hy1'⟩ := get_of_lt (xs := ys) (k := 0) (by have h := HQ.out.res.len; rw [intRows_length] at h; omega)
        obtain ⟨gA, hgA, hgA1, hgA2, hgc, hgz, hput⟩ := HQ.out.res.putInt hy1'
        subst hgA
        obtain ⟨gH, hgH, _, hgH2, hc6, _, _⟩ := HQ.out.pb.res.put (k := 0) (j := 6) (holdingRows_get hx) (by omega)
        subst hgH
        have HXX := Lib.hid (HFI.out x (List.mem_of_getElem? hx)).2.2.2.2.2.2
        have c6 : w3.cell? ⟨gH, 6, none⟩ = some (.int .i64 x.count) := by simpa using hc6 _ rfl
        have a6 : (w3.alloc (.cells #[.int .i64 (-1), .int .i64 x.count, .int .i64 (IntKind.i64.wrap (x.count + 1))] 2)).cell? ⟨gH, 6, none⟩ = some (.int .i64 x.count) := (World.cell?_alloc_lt w3 _ _ hgH2).trans c6
        have HY1 := Lib.hid hy1'
        have HGA := Lib.hid hgA1
        have hgl := HQ.out.src.lt
        clear hx hy1' hput hc6
        go_upto_region 13 with fail
        go_region_law (go_simp; go_at_call 99; refine (spec_l01Pick_any K hK g w3 w3.heap.size [.int .i64 (-1), .int .i64 x.count, .int .i64 (IntKind.i64.wrap (x.count + 1))] 3 _ (by first | exact hT.alloc _ | exact (hT.alloc _).drew) (by first | exact Blk.new w3 _ _ | exact (Blk.new w3 _ _).drew) hgl rfl (by decide) (by decide) rfl).mono ?_; rintro e w5 ⟨v9, rfl, hv9, hT5⟩; simp only [OneOf, Value.int.injEq, true_and, or_false] at hv9; have HQ5 := Lib.hid (HQ.out.nxx hT5); have g0 : w5.cell? ⟨gA, 0, none⟩ = some (.int .i64 y1) := (HQ5.out.res.at0 HY1.out).1; have g1 : w5.frozen? ⟨gA, 0, none⟩ = false := (HQ5.out.res.at0 HY1.out).2.1)
        all_goals
          have hvb : -9223372036854775808 ≤ v9 ∧ v9 ≤ 9223372036854775807 := by
            rcases hv9 with rfl | rfl | rfl
            · omega
            · exact HXX.out
            · rw [IntWalk.i64_left]; exact wrap_in64 _
          have HQ6 := Lib.hid (HQ5.out.app ((HQ5.out.res.at0 HY1.out).2.2 v9) ((Below.refl _ _).setCell (p := ⟨gA, 0, none⟩) HGA.out _) (fun q _ hq => Below.heap_setCell _ _ _ _ (fun e => hq (by rw [show q = gA from e]; rfl))) (fun _ h => .inl h))
          have HY6 := Lib.hid (ints_set0 HY.out hvb)
          clear hv9 g0 g1
          go_wp2_with fail
          go_meet
          case rel => exact ⟨some ⟨gA, 0, none⟩, k, c3, _, rfl, by omega, by first | exact HQ6 | exact Lib.hid HQ6.out.drew, HY6⟩
      case rest =>
        clear HQ hT HY
        obtain ⟨A3, m3, c3, ys, rfl, hm3, HQ, HY⟩ := hcut
        have b0 : wc.cell? ⟨Gb, 0, none⟩ = some (.int .i64 b.first) := HQ.out.bas.cell 0
        have b1 : wc.cell? ⟨Gb, 1, none⟩ = some (.slice A1 n1 c1) := HQ.out.bas.cell 1
        have b2 : wc.cell? ⟨Gb, 2, none⟩ = some (.int .i64 b.rate) := HQ.out.bas.cell 2
        have zc0 : wc.cell? ⟨w.heap.size, 0, none⟩ = some (.int .i64 0) := HQ.out.z.cell 0
        have zf0 : wc.frozen? ⟨w.heap.size, 0, none⟩ = false := HQ.out.z.frozen 0
        have zc1 : wc.cell? ⟨w.heap.size, 1, none⟩ = some (.slice none 0 0) := HQ.out.z.cell 1
        have zf1 : wc.frozen? ⟨w.heap.size, 1, none⟩ = false := HQ.out.z.frozen 1
        have zc2 : wc.cell? ⟨w.heap.size, 2, none⟩ = some (.int .i64 0) := HQ.out.z.cell 2
        have zf2 : wc.frozen? ⟨w.heap.size, 2, none⟩ = false := HQ.out.z.frozen 2
        have hcB := Lib.hid (Blk.agg (cs := [.int .i64 b.first, .slice A1 n1 c1, .int .i64 b.rate]) HQ.out.bas 0 [.int .i64 b.first, .slice A1 n1 c1, .int .i64 b.rate] rfl)
        go_wp2_with (refine wpList_load_agg rfl 28 _ rfl ⟨Gb, 0, none⟩ rfl [.int .i64 b.first, .slice A1 n1 c1, .int .i64 b.rate] hcB.out _ Try.underlying28 rfl Bas.size ?_)
        obtain ⟨hz9, hp9, hr9, hb9⟩ := HQ.out.fin
        clear zc0 zf0 zc1 zf1 zc2 zf2 b0 b1 b2
        generalize ((wc.setCell ⟨w.heap.size, 0, none⟩ (.int .i64 b.first)).setCell ⟨w.heap.size, 1, none⟩ (.slice A1 n1 c1)).setCell ⟨w.heap.size, 2, none⟩ (.int .i64 b.rate) = W9 at hz9 hp9 hr9 hb9 ⊢
        have q0 : W9.cell? ⟨w.heap.size, 0, none⟩ = some (.int .i64 b.first) := hz9.cell 0
        have q1 : W9.cell? ⟨w.heap.size, 1, none⟩ = some (.slice A1 n1 c1) := hz9.cell 1
        have q2 : W9.cell? ⟨w.heap.size, 2, none⟩ = some (.int .i64 b.rate) := hz9.cell 2
        refine bodyPost_ret (v := .tuple #[.agg #[.int .i64 b.first, .slice A1 n1 c1, .int .i64 b.rate], .slice A2 k c2, .slice A3 m3 c3]) (by simp [results, Try.results48, go_sem, q0, q1, q2]) rfl ?_
        have hwB : w.heap.size ≤ w1.heap.size := by have h1 := HQ.out.o1; have h2 := HQ.out.o2; omega
        exact ⟨b, A1, n1, c1, A2, k, c2, xs, A3, m3, c3, rfl, hp9.more hwB, ⟨_, hr9.more hwB, HY.out⟩, by omega, hb9⟩
    | succ gn =>
      have hji : (m : Int) < (k : Int) := by omega
      obtain ⟨x, hx⟩ := get_of_lt (xs := xs) (k := m) (by rw [HXL.out]; omega)
      obtain ⟨ad, hA2, had, _, hc⟩ := (HQ.out.pb.res.rd).at' (holdingRows_get hx)
      subst hA2
      have HXX := Lib.hid (List.mem_of_getElem? hx)
      have c6 := (Holding.cells hc).2.2.2.2.2.2
      clear hc hx
      go_wp2_with (first | (go_at_call 58; refine (spec_l01Next_any K hK g _ _ _ (by first | exact hT | exact hT.alloc _ | exact (hT.alloc _).alloc _ | exact hT.drew)).mono ?_; rintro e w3 ⟨y, rfl, ⟨hy0, hy1⟩, hTy⟩; have HQ := Lib.hid (HQ.out.nxx hTy); clear hTy; have hT := Nx.refl HQ.out.src) | (at_builtin; refine wpList_append_row_at _ rfl _ _ _ rfl w1.heap.size 2 i0 _ 1 8 Try.underlying24 HI.out.1 HI.out.2.1 HI.out.2.2.1 HI.out.2.2.2 rfl (by decide) (by decide) _ _ _ _ rfl HQ.out.res [.int .i64 _] _ rfl rfl (by simp [Value.oneCell']) (by omega) HQ.out.hB ?_; intro A5 c5 w5 hR5 hb5 hk5 ho5))
      all_goals
        rw [← intRows_snoc] at hR5
        have HQ6 := Lib.hid (HQ.out.app hR5 hb5 hk5 (or_blk ho5 (Nat.le_succ _)))
        go_roundg gn
        case measure => omega
        case rel => exact ⟨A5, m + 1, c5, m + 1, _, by go_num, by omega, rfl, by omega, HQ6, Lib.hid (ints_snoc HY.out (by first | exact wrap_in64 _ | omega))⟩
end Go.Proofs.Ytbjdbpdgacfcpaa
end

/- How a law that draws opens its code, and from its walk to its row. No condition. -/
section
namespace Go.Proofs.Ytbjdbpdgacfcpaa
open Go.ChangeShapes Go.WideShapes Go.ChangeAt Go.RowKit Go.Deep

section
variable {H : Type} {enc : TypeId × Value → H} {P : Program} {w : World} {base : Nat} {spare : Nat → Bool} {held : Bool}
theorem open_code {t e : TypeId} {fuel n cap : Nat} {A : Option Addr} {x : DataW H × List MemPlace} (ht : P.underlying t = some (.slice e)) (he : P.underlying e = some (.int .u8)) (hC : P.cellsOf e = 1)
    (h : DataW.trod enc P w base spare held fuel t [.slice A n cap] = some x) :
    ∃ bs : List Int, bs.length = n ∧ (∀ z ∈ bs, 0 ≤ z ∧ z ≤ 255) ∧ Rd w w.heap.size A 1 (byteRows bs) ∧ n ≤ 9223372036854775807 := by
  rcases open_slice ht h with ⟨h0, _⟩ | ⟨a, len, cap', m', n', D, Pl, hcs, hb, hl, hmx, hmm, _, hel⟩
  · simp only [List.cons.injEq, Value.slice.injEq, and_true] at h0
    obtain ⟨rfl, rfl, _⟩ := h0
    exact ⟨[], rfl, by simp, .inl rfl, by omega⟩
  · simp only [List.cons.injEq, Value.slice.injEq, and_true] at hcs
    obtain ⟨rfl, rfl, rfl⟩ := hcs
    have hle : n ≤ m' := by rw [hmm]; split <;> omega
    have each : ∀ i : Nat, i < n → ∃ z : Int, (0 ≤ z ∧ z ≤ 255) ∧ w.cell? (a.add i) = some (.int .u8 z) := by
      intro i hin
      obtain ⟨cs', hc, htr⟩ := hel i (by omega)
      obtain ⟨z, rfl, _, wn⟩ := DataW.trod_int he htr
      obtain ⟨_, hcl, hat⟩ := World.cells?_some hc
      have := hat 0 (by rw [hC]; omega)
      rw [hC, add_of_add] at this
      refine ⟨z, ?_, by simpa using this⟩
      simpa [Lit.wf, IntKind.min, IntKind.max, IntKind.signed, IntKind.bits] using wn
    obtain ⟨bs, hbl, hbs⟩ := list_of n each
    have hmx' : n ≤ 9223372036854775807 := by unfold maxLen at *; omega
    refine ⟨bs, hbl, fun z hz => ?_, ?_, hmx'⟩
    · obtain ⟨i, hi', rfl⟩ := List.getElem_of_mem hz
      exact (hbs i _ (List.getElem?_eq_getElem hi')).1
    · rcases Nat.eq_zero_or_pos n with h0 | h0
      · have : bs = [] := List.eq_nil_of_length_eq_zero (by omega)
        subst this; exact .inl rfl
      · have hblk : a.block < w.heap.size := by
          obtain ⟨z, hz⟩ := get_of_lt (xs := bs) (k := 0) (by omega)
          have := block_lt_of_cell (hbs 0 z hz).2
          rwa [block_of_add] at this
        refine .inr ⟨a, rfl, hblk, fun k r hk => ?_⟩
        simp only [byteRows, List.getElem?_map, Option.map_eq_some_iff] at hk
        obtain ⟨z, hk, rfl⟩ := hk
        refine ⟨rfl, fun j v hv => ?_⟩
        have hj : j = 0 := by have := (List.getElem?_eq_some_iff.1 hv).1; simp at this; exact this
        subst hj
        simp only [List.getElem?_cons_zero, Option.some.injEq] at hv
        subst hv
        simpa using (hbs k z hk).2
end
theorem laws_big_any (A : Option Addr) (n cap : Nat) (w : World) (_hn : n ≤ 9223372036854775807) : Calls Try.prog 8 #[.slice A n cap] w fun e w' => e = .returned (.bool (decide (4096 < n))) ∧ w = w' := by
  by_cases h : 4096 < n
  · go_enter Try.func8, Try.ntmps8
    go_wp2
    go_ret
    exact ⟨by simp; omega, rfl⟩
  · go_enter Try.func8, Try.ntmps8
    go_wp2
    go_ret
    exact ⟨by simp; omega, rfl⟩
end Go.Proofs.Ytbjdbpdgacfcpaa
end

/- The laws' own helpers: equal lists are like each other; the sum of a list. -/
section
namespace Go.Proofs.Ytbjdbpdgacfcpaa
open Go.RowKit Go.BigFrame

theorem likeInts_any (A : Option Addr) (n cap : Nat) (A2 : Option Addr) (cap2 : Nat) (xs : List Int) (w : World) (hl : xs.length = n) (hn : n ≤ 1048576) (hX : Rd w w.heap.size A 1 (intRows xs)) (hX2 : Rd w w.heap.size A2 1 (intRows xs)) :
    Calls Try.prog 30 #[.slice A n cap, .slice A2 n cap2] w fun e w' => e = .returned (.bool true) ∧ Below w.heap.size w w' := by
  have HX := Lib.hid hX; clear hX
  have HX2 := Lib.hid hX2; clear hX2
  have HL := Lib.hid hl; clear hl
  go_enter Try.func30, Try.ntmps30
  go_wp2
  go_loopw [5] (fun i wr => ∃ k : Nat, k ≤ n ∧ i = .int .i64 k ∧ Below w.heap.size w wr) (fun i _ => n - (intOf i).toNat)
  case atStart => exact ⟨0, by omega, rfl, Below.refl _ _⟩
  case round =>
    obtain ⟨k, hk, rfl, hb⟩ := hrel
    by_cases hlt : k < n
    · obtain ⟨x, hx⟩ := get_of_lt (xs := xs) (k := k) (by rw [HL.out]; exact hlt)
      obtain ⟨ad, rfl, had, hc⟩ := (HX.out.past hb).int_at hx
      obtain ⟨ad2, rfl, had2, hc2⟩ := (HX2.out.past hb).int_at hx
      clear hx
      have d0 := fun y : Past wr => Past.cell hc y
      have d1 := fun y : Past wr => Past.cell hc2 y
      have hki : (k : Int) < (n : Int) := by omega
      clear hc hc2
      go_wp2
      refine wp_region_past (by kernel_rfl) (by kernel_rfl) ?_
      repeat (go_big_quiet_step (fail))
      refine wpQuiet_nil ?_
      rintro _ ⟨y, rfl⟩
      go_wp2
      go_roundw
      case rel => exact ⟨k + 1, by omega, by go_num, hb.trans (y.2.mono hb.size)⟩
      case measure => simp [intOf]; omega
    · have hki : ¬ (k : Int) < (n : Int) := by omega
      go_wp2
      go_ret
      exact ⟨rfl, hb⟩

def SumOk (xs : List Int) : Prop := ∀ k : Nat, -4000000000000000000 ≤ (xs.take k).sum ∧ (xs.take k).sum ≤ 4000000000000000000
theorem takeSum_snoc {xs : List Int} {k : Nat} {x : Int} (hx : xs[k]? = some x) : (xs.take (k + 1)).sum = (xs.take k).sum + x := by
  rw [take_succ_snoc hx]; simp
theorem sumOk_of {lo hi : Int} (h0 : lo ≤ 0) (h1 : 0 ≤ hi) {n : Nat} : ∀ (xs : List Int), xs.length ≤ n → (∀ x ∈ xs, lo ≤ x ∧ x ≤ hi) → lo * (n : Int) ≤ xs.sum ∧ xs.sum ≤ hi * (n : Int)
  | [], _, _ => by
    simp only [List.sum_nil]
    exact ⟨by have := Int.mul_nonneg (show 0 ≤ -lo by omega) (show (0 : Int) ≤ n by omega); rw [Int.neg_mul] at this; omega, Int.mul_nonneg h1 (by omega)⟩
  | x :: r, hl, h => by
    cases n with
    | zero => simp at hl
    | succ n =>
      obtain ⟨h2, h3⟩ := sumOk_of h0 h1 (n := n) r (by simpa using hl) fun y hy => h y (by simp [hy])
      have h4 := h x (by simp)
      simp only [List.sum_cons]
      have e1 : lo * ((n + 1 : Nat) : Int) = lo * (n : Int) + lo := by rw [Int.natCast_add, Int.mul_add]; simp
      have e2 : hi * ((n + 1 : Nat) : Int) = hi * (n : Int) + hi := by rw [Int.natCast_add, Int.mul_add]; simp
      omega
theorem SumOk.of {lo hi : Int} {xs : List Int} {n : Nat} (h0 : lo ≤ 0) (h1 : 0 ≤ hi) (hl : xs.length ≤ n) (h : ∀ x ∈ xs, lo ≤ x ∧ x ≤ hi) (hb : -4000000000000000000 ≤ lo * (n : Int) ∧ hi * (n : Int) ≤ 4000000000000000000) : SumOk xs := fun k => by
  have := sumOk_of h0 h1 (n := n) (xs.take k) (by simp; omega) fun x hx => h x (List.mem_of_mem_take hx)
  omega

theorem laws_sum_any (A : Option Addr) (n cap : Nat) (xs : List Int) (w : World) (hl : xs.length = n) (hn : n ≤ 1048576) (hX : Rd w w.heap.size A 1 (intRows xs)) (hs : SumOk xs) :
    Calls Try.prog 17 #[.slice A n cap] w fun e w' => e = .returned (.int .i64 xs.sum) ∧ w = w' := by
  have HX := Lib.hid hX; clear hX
  have HL := Lib.hid hl; clear hl
  have HS := Lib.hid hs; clear hs
  go_enter Try.func17, Try.ntmps17
  go_wp2
  go_loop [3, 4] (fun s i => ∃ k : Nat, k ≤ n ∧ i = .int .i64 k ∧ s = .int .i64 (xs.take k).sum) (fun _ i => n - (intOf i).toNat)
  case atStart => exact ⟨0, by omega, rfl, rfl⟩
  case round =>
    obtain ⟨k, hk, rfl, rfl⟩ := hrel
    by_cases hlt : k < n
    · obtain ⟨x, hx⟩ := get_of_lt (xs := xs) (k := k) (by rw [HL.out]; exact hlt)
      obtain ⟨ad, rfl, had, hc⟩ := HX.out.int_at hx
      have HE := Lib.hid (takeSum_snoc hx)
      obtain ⟨s0, s1⟩ := HS.out (k + 1)
      rw [HE.out] at s0 s1
      obtain ⟨t0, t1⟩ := HS.out k
      generalize (xs.take k).sum = S at HE s0 s1 t0 t1 ⊢
      have Hx := Lib.hid hx; clear hx
      have hki : (k : Int) < (n : Int) := by omega
      go_wp2
      go_round
      case rel => exact ⟨k + 1, by omega, by go_num, by rw [HE.out]⟩
      case measure => simp [intOf]; omega
    · have hki : ¬ (k : Int) < (n : Int) := by omega
      have hkn : k = n := by omega
      subst hkn
      go_wp2
      go_ret
      exact ⟨by rw [List.take_of_length_le (by rw [HL.out]; exact Nat.le_refl _)]; rfl, rfl⟩
end Go.Proofs.Ytbjdbpdgacfcpaa
end

/- Slices that are read in later worlds, many at once. -/
section
namespace Go.Proofs.Ytbjdbpdgacfcpaa
open Go.RowKit Go.BigFrame
def Held (w : World) (L : List (Option Addr × Nat × List (List Value))) : Prop := ∀ x ∈ L, Rd w w.heap.size x.1 x.2.1 x.2.2
theorem Held.nil (w : World) : Held w [] := by intro x hx; cases hx
section
variable {w w' : World} {L : List (Option Addr × Nat × List (List Value))} {A : Option Addr} {sz : Nat} {rows : List (List Value)}
theorem Held.past (h : Held w L) (hb : Below w.heap.size w w') : Held w' L := fun x hx => (h x hx).past hb
theorem Held.snoc (h : Held w L) (hr : Rd w w.heap.size A sz rows) : Held w (L ++ [(A, sz, rows)]) := by
  intro x hx
  rcases List.mem_append.1 hx with hx | hx
  · exact h x hx
  · simp only [List.mem_singleton] at hx; rw [hx]; exact hr
theorem Held.cons (h : Held w L) (hr : Rd w w.heap.size A sz rows) : Held w ((A, sz, rows) :: L) := by
  intro x hx
  rcases List.mem_cons.1 hx with hx | hx
  · rw [hx]; exact hr
  · exact h x hx
theorem Held.get (h : Held w L) (k : Nat) (e : L[k]? = some (A, sz, rows)) : Rd w w.heap.size A sz rows := h _ (List.mem_of_getElem? e)
end
theorem Blk.rd {w : World} {g : Nat} {t : TypeId} {r : List Value} (h : Blk w g t r.toArray) : Rd w w.heap.size (some ⟨g, 0, none⟩) r.length [r] := by
  refine .inr ⟨_, rfl, h.lt, fun k r' hk => ?_⟩
  have h0 : k = 0 := by have := (List.getElem?_eq_some_iff.1 hk).1; simp at this; exact this
  subst h0
  simp only [List.getElem?_cons_zero, Option.some.injEq] at hk
  subst hk
  exact ⟨rfl, fun j v hv => by rw [add_none, h.cell]; simpa using hv⟩
/-- the cells of the one row of a box -/
theorem Rd.box {w : World} {B : Nat} {g sz : Nat} {r : List Value} (h : Rd w B (some ⟨g, 0, none⟩) sz [r]) : ∀ (j : Nat) (v : Value), r[j]? = some v → w.cell? ((⟨g, 0, none⟩ : Addr).add j) = some v := by
  intro j v hv
  rcases h with h | ⟨ad, e, _, hc⟩
  · cases h
  · injection e with e; subst e
    have := (hc 0 r rfl).2 j v hv
    simpa using this
theorem res_cap {w : World} {B t sz n cap : Nat} {A : Option Addr} {rows : List (List Value)} (h : Res B w t sz A n cap rows) : n ≤ cap := by
  rcases h.own.2 with ⟨h1, h2⟩ | ⟨g, c, cur, e, _, _, hnc, _⟩
  · simp only [Value.slice.injEq] at h1; omega
  · simp only [Value.slice.injEq] at e; omega
theorem Rd.boxT {w : World} {B g sz : Nat} {a b c : Value} (h : Rd w B (some ⟨g, 0, none⟩) sz [[a, b, c]]) : ∀ (j : Nat) (v : Value), [a, b][j]? = some v → w.cell? ((⟨g, 0, none⟩ : Addr).add j) = some v := fun j v hv => Rd.box h j v (by
  match j, hv with
  | 0, hv => simpa using hv
  | 1, hv => simpa using hv)
theorem below_all {w0 w1 w2 : World} (h : Below w0.heap.size w0 w1) (hb : Below w1.heap.size w1 w2) : Below w0.heap.size w0 w2 := h.trans (hb.mono h.size)
end Go.Proofs.Ytbjdbpdgacfcpaa
end

/- Tables are compared; what a law on portfolios knows of what was drawn. -/
section
namespace Go.Proofs.Ytbjdbpdgacfcpaa
open Go.RowKit Go.BigFrame
theorem Rd.bcell {w : World} {B g sz : Nat} {r : List Value} (h : Rd w B (some ⟨g, 0, none⟩) sz [r]) (j : Nat) {v : Value} (hv : r[j]? = some v) : w.cell? ⟨g, j, none⟩ = some v := by
  have := Rd.box h j v hv
  rw [add_none] at this
  simpa using this
/-- what is known of a drawn basis and portfolio, beside their cells -/
structure PF (b : Bas) (n c : Nat) (k : Nat) (xs : List Holding) : Prop where
  sm : BasSmall b n
  len : k ≤ 100
  fits : ∀ x ∈ xs, x.fits
  xlen : xs.length = k
  blen : b.lives.length = n
  cap : n ≤ c
theorem PB.pf {B : Nat} {w : World} {b : Bas} {A : Option Addr} {n c : Nat} {A2 : Option Addr} {k c2 : Nat} {xs : List Holding} (h : PB B w b A n c A2 k c2 xs) : PF b n c k xs := ⟨h.sm, h.len, h.fits, h.xlen, h.blen, res_cap h.liv⟩
/-- .. of a drawn basis alone -/
structure BF (b : Bas) (n c : Nat) : Prop where
  sm : BasSmall b n
  blen : b.lives.length = n
  cap : n ≤ c
theorem PF.bf {b : Bas} {n c k : Nat} {xs : List Holding} (h : PF b n c k xs) : BF b n c := ⟨h.sm, h.blen, h.cap⟩
theorem BF.of {B : Nat} {w : World} {b : Bas} {A : Option Addr} {n c : Nat} (h : Res B w 2 1 A n c (intRows b.lives)) (hs : BasSmall b n) : BF b n c := ⟨hs, by have := h.len; rwa [intRows_length] at this, res_cap h⟩
theorem liesT_of {w : World} {A : Option Addr} {n : Nat} {xs : List Int} (hr : Rd w w.heap.size A 1 (intRows xs)) (hl : xs.length = n) (hn : n ≤ 1048576) (h : ∀ x ∈ xs, 0 ≤ x ∧ x ≤ 1000001) : LiesT w A n xs :=
  ⟨hl, hn, hr, fun x hx => by have := h x hx; unfold In64; omega⟩
theorem BF.basT {w : World} {b : Bas} {A : Option Addr} {n c : Nat} (h : BF b n c) (hr : Rd w w.heap.size A 1 (intRows b.lives)) : BasT w A n c b := by
  refine ⟨liesT_of hr h.blen (by have := h.sm.len; omega) h.sm.lives, h.cap, ?_, ?_⟩
  · have := h.sm.first; unfold In64; omega
  · have := h.sm.rate; unfold In64; omega
theorem tab_lives {f : Int} {xs : List Int} (h : tableB f xs = true) : ∀ x ∈ xs, 0 ≤ x ∧ x ≤ 1000001 := by
  intro x hx
  have T := table_ok h
  obtain ⟨k, hk, rfl⟩ := List.getElem_of_mem hx
  have e : lv xs k = xs[k] := lv_get (List.getElem?_eq_getElem hk)
  have h1 := T.nonneg k
  have h2 := T.most k
  omega
theorem tab_first {f : Int} {xs : List Int} (h : tableB f xs = true) : In64 f := by
  have T := table_ok h
  have h1 := T.first0; have h2 := T.first1
  unfold In64; omega
theorem tabT_good {w : World} {A : Option Addr} {n : Nat} {f : Int} {xs : List Int} (h : tableB f xs = true) (hr : Rd w w.heap.size A 1 (intRows xs)) (hl : xs.length = n) : LiesT w A n xs :=
  liesT_of hr hl (by have := (table_ok h).len1; omega) (tab_lives h)
theorem basT_good {w : World} {A : Option Addr} {n c : Nat} {b : Bas} (h : basisB b = true) (hr : Rd w w.heap.size A 1 (intRows b.lives)) (hl : b.lives.length = n) (hc : n ≤ c) : BasT w A n c b := by
  have B := basis_ok h
  have ht : tableB b.first b.lives = true := by simp only [basisB, Bool.and_eq_true] at h; exact h.1
  refine ⟨tabT_good ht hr hl, hc, tab_first ht, ?_⟩
  have h1 := B.rate0; have h2 := B.rate1
  unfold In64; omega
theorem chgT_len {f dt : Int} {xs : List Int} : (chgTP f xs dt).2.1.length ≤ 1048576 := by
  unfold chgTP
  split
  · rename_i h1
    split
    · have := chgL_small (dt := dt) h1
      show (chgL xs dt).length ≤ 1048576
      omega
    · simp
  · simp
theorem chgB_len {b : Bas} {r : Scenario} : (chgBP b r).1.lives.length ≤ 1048576 := by
  unfold chgBP
  split
  · rename_i h1
    split
    · have ht : tableB b.first b.lives = true := by simp only [basisB, Bool.and_eq_true] at h1; exact h1.1
      have := chgL_small (dt := r.death) ht
      show (chgL b.lives r.death).length ≤ 1048576
      omega
    · simp
  · simp
theorem scen_fit2 {r d : Int} (h : (-1000 ≤ r ∧ r ≤ 1000) ∧ (-1000 ≤ d ∧ d ≤ 1000)) : (⟨r, d⟩ : Scenario).fits := by
  show In64 r ∧ In64 d
  unfold In64; omega
theorem box2 {w : World} {tx ty : TypeId} {X Y : List Value} : Below w.heap.size w ((w.alloc (.cells X.toArray tx)).alloc (.cells Y.toArray ty)) ∧ Rd ((w.alloc (.cells X.toArray tx)).alloc (.cells Y.toArray ty)) ((w.alloc (.cells X.toArray tx)).alloc (.cells Y.toArray ty)).heap.size (some ⟨w.heap.size, 0, none⟩) X.length [X] ∧ Rd ((w.alloc (.cells X.toArray tx)).alloc (.cells Y.toArray ty)) ((w.alloc (.cells X.toArray tx)).alloc (.cells Y.toArray ty)).heap.size (some ⟨w.heap.size + 1, 0, none⟩) Y.length [Y] := by
  refine ⟨((Below.refl _ w).alloc (Nat.le_refl _) _).alloc (by simp) _, Blk.rd ((Blk.new w tx X.toArray).alloc _), ?_⟩
  have h := Blk.new (w.alloc (.cells X.toArray tx)) ty Y.toArray
  simp only [World.size_alloc] at h
  exact Blk.rd h
theorem box1 {w : World} {tx : TypeId} {X : List Value} : Below w.heap.size w (w.alloc (.cells X.toArray tx)) ∧ Rd (w.alloc (.cells X.toArray tx)) (w.alloc (.cells X.toArray tx)).heap.size (some ⟨w.heap.size, 0, none⟩) X.length [X] :=
  ⟨(Below.refl _ w).alloc (Nat.le_refl _) _, Blk.rd (Blk.new w tx X.toArray)⟩
end Go.Proofs.Ytbjdbpdgacfcpaa
end

/- Equal lists of holdings are like each other. -/
section
namespace Go.Proofs.Ytbjdbpdgacfcpaa
open Go.RowKit Go.BigFrame

theorem likeHoldings9_any (A : Option Addr) (n cap : Nat) (A2 : Option Addr) (cap2 : Nat) (xs : List Holding) (w : World) (hl : xs.length = n) (hn : n ≤ 1048576) (hX : Rd w w.heap.size A 7 (holdingRows xs)) (hX2 : Rd w w.heap.size A2 7 (holdingRows xs)) :
    Calls Try.prog 15 #[.slice A n cap, .slice A2 n cap2] w fun e w' => e = .returned (.bool true) ∧ Below w.heap.size w w' := by
  have HX := Lib.hid hX; clear hX
  have HX2 := Lib.hid hX2; clear hX2
  have HL := Lib.hid hl; clear hl
  go_enter Try.func15, Try.ntmps15
  go_wp2
  go_loopw [5] (fun i wr => ∃ k : Nat, k ≤ n ∧ i = .int .i64 k ∧ Below w.heap.size w wr) (fun i _ => n - (intOf i).toNat)
  case atStart => exact ⟨0, by omega, rfl, Below.refl _ _⟩
  case round =>
    obtain ⟨k, hk, rfl, hb⟩ := hrel
    by_cases hlt : k < n
    · obtain ⟨x, hx⟩ := get_of_lt (xs := xs) (k := k) (by rw [HL.out]; exact hlt)
      obtain ⟨ad, rfl, had, _, hc⟩ := (HX.out.past hb).at' (holdingRows_get hx)
      obtain ⟨ad2, rfl, had2, _, hc2⟩ := (HX2.out.past hb).at' (holdingRows_get hx)
      clear hx
      have Hc := Lib.hid (Past.cells' hc)
      have Hc2 := Lib.hid (Past.cells' hc2)
      have hki : (k : Int) < (n : Int) := by omega
      clear hc hc2
      unfold Holding.row at Hc Hc2
      go_wp2
      refine wp_region_past (by kernel_rfl) (by kernel_rfl) ?_
      repeat (first | (go_big_quiet_want; (first | (first | (refine quiet_load_agg 37 _ rfl (ad.add (k * 7)) rfl [.int .i64 x.kind, .int .i64 x.age, .int .i64 x.years, .int .i64 x.sum, .int .i64 x.load, .int .i64 x.year, .int .i64 x.count] Hc.out _ Try.underlying37 rfl Holding.size ?_) | (refine quiet_load_agg 37 _ rfl (ad2.add (k * 7)) rfl [.int .i64 x.kind, .int .i64 x.age, .int .i64 x.years, .int .i64 x.sum, .int .i64 x.load, .int .i64 x.year, .int .i64 x.count] Hc2.out _ Try.underlying37 rfl Holding.size ?_))); go_simp; go_big_quiet_on) | go_big_quiet_step (fail))
      refine wpQuiet_nil ?_
      rintro _ ⟨y, rfl⟩
      go_wp2
      go_roundw
      case rel => exact ⟨k + 1, by omega, by go_num, hb.trans (y.2.mono hb.size)⟩
      case measure => simp [intOf]; omega
    · have hki : ¬ (k : Int) < (n : Int) := by omega
      go_wp2
      go_ret
      exact ⟨rfl, hb⟩
end Go.Proofs.Ytbjdbpdgacfcpaa
end

/- A portfolio grown older: plain laws. No program. -/
section
namespace Go.Proofs.Ytbjdbpdgacfcpaa

def Holding.older (x : Holding) (d : Int) : Holding := { x with year := x.year + 1, count := x.count - d }
def goneB (b : Bas) (x : Holding) (d : Int) : Bool := (x.count - d == 0) || (x.year + 1 == durP b x.pol)
def stuckB (b : Bas) (x : Holding) (d : Int) : Bool := !goneB b x d && (b.d (x.age + (x.year + 1)) == 0)
def deadB (xs : List Holding) (ds : List Int) : Bool := (xs.zip ds).all fun p => inR p.2 0 p.1.count
def olderL (b : Bas) (ps : List (Holding × Int)) : List Holding := ps.filterMap fun p => if goneB b p.1 p.2 = true then none else some (p.1.older p.2)
def deathCode (b : Bas) (xs : List Holding) (ds : List Int) : Int := if portB b xs = true then (if ds.length = xs.length then (if deadB xs ds = true then 0 else 2) else 2) else 1
def ageP (b : Bas) (xs : List Holding) (ds : List Int) : List Holding × Int :=
  if deathCode b xs ds = 0 then (if (xs.zip ds).any (fun p => stuckB b p.1 p.2) = true then ([], 5) else (olderL b (xs.zip ds), 0)) else ([], deathCode b xs ds)
theorem older_pol (x : Holding) (d : Int) : (x.older d).pol = x.pol := rfl
theorem older_row (x : Holding) (d : Int) : (x.older d).row = [.int .i64 x.kind, .int .i64 x.age, .int .i64 x.years, .int .i64 x.sum, .int .i64 x.load, .int .i64 (x.year + 1), .int .i64 (x.count - d)] := rfl
theorem pair_get {α β : Type} {xs : List α} {ys : List β} {k : Nat} {x : α} {y : β} (hx : xs[k]? = some x) (hy : ys[k]? = some y) : (xs.zip ys)[k]? = some (x, y) := by
  simp [List.getElem?_zip_eq_some, hx, hy]
theorem olderL_skip {b : Bas} {ps : List (Holding × Int)} {k : Nat} {x : Holding} {d : Int} (h : ps[k]? = some (x, d)) (hg : goneB b x d = true) : olderL b (ps.take (k + 1)) = olderL b (ps.take k) := by
  rw [take_succ_snoc h]; simp [olderL, hg]
theorem olderL_keep {b : Bas} {ps : List (Holding × Int)} {k : Nat} {x : Holding} {d : Int} (h : ps[k]? = some (x, d)) (hg : goneB b x d = false) : olderL b (ps.take (k + 1)) = olderL b (ps.take k) ++ [x.older d] := by
  rw [take_succ_snoc h]; simp [olderL, hg]
theorem olderL_length (b : Bas) (ps : List (Holding × Int)) : (olderL b ps).length ≤ ps.length := by unfold olderL; exact List.length_filterMap_le _ _
theorem deathCode_ok {b : Bas} {xs : List Holding} {ds : List Int} (h : deathCode b xs ds = 0) : portB b xs = true ∧ ds.length = xs.length ∧ deadB xs ds = true := by
  unfold deathCode at h
  split at h
  · rename_i h1
    split at h
    · rename_i h2
      split at h
      · rename_i h3; exact ⟨h1, h2, h3⟩
      · cases h
    · cases h
  · cases h
theorem ageP_small (b : Bas) (xs : List Holding) (ds : List Int) : (ageP b xs ds).1.length ≤ 30 := by
  unfold ageP
  split
  · rename_i h
    have h1 := deathCode_ok h
    have h2 := (port_hold h1.1).1
    split
    · simp
    · have := olderL_length b (xs.zip ds)
      simp at this
      show (olderL b (xs.zip ds)).length ≤ 30
      omega
  · simp
theorem dead_get {xs : List Holding} {ds : List Int} (h : deadB xs ds = true) {k : Nat} {x : Holding} {d : Int} (hx : xs[k]? = some x) (hd : ds[k]? = some d) : 0 ≤ d ∧ d ≤ x.count := by
  have := all_get h (pair_get hx hd)
  exact inR_true.1 this
/-- an older holding that is neither gone nor stuck is one -/
theorem older_hold {b : Bas} {x : Holding} {d : Int} (H : holdB b x = true) (hd : 0 ≤ d ∧ d ≤ x.count) (hg : goneB b x d = false) (hs : stuckB b x d = false) : holdB b (x.older d) = true := by
  obtain ⟨⟨c0, c1⟩, Y⟩ := hold_ok H
  have hp := hold_pol H
  have k0 := Y.k0
  have k1 := Y.k1
  simp only [goneB, Bool.or_eq_false_iff, beq_eq_false_iff_ne] at hg
  have hs2 : b.d (x.age + (x.year + 1)) ≠ 0 := by
    simp only [stuckB, goneB, Bool.and_eq_false_iff, Bool.not_eq_false', Bool.or_eq_true, beq_iff_eq, beq_eq_false_iff_ne] at hs
    rcases hs with (h | h) | h
    · exact absurd h hg.1
    · exact absurd h hg.2
    · exact h
  have hr : resCode b (x.older d).pol (x.older d).year = 0 := by
    show resCode b x.pol (x.year + 1) = 0
    unfold resCode
    rw [if_pos hp, if_pos (inR_mk ⟨by omega, by have := hg.2; omega⟩), if_neg (show ¬ b.d (x.pol.age + (x.year + 1)) = 0 from hs2)]
  have hc : inR (x.older d).count 0 1000000 = true := inR_mk (show 0 ≤ x.count - d ∧ x.count - d ≤ 1000000 by omega)
  unfold holdB
  rw [hr, hc]
  rfl
theorem older_port {b : Bas} {xs : List Holding} {ds : List Int} (h : deathCode b xs ds = 0) (hs : (xs.zip ds).any (fun p => stuckB b p.1 p.2) = false) : portB b (olderL b (xs.zip ds)) = true := by
  obtain ⟨h1, h2, h3⟩ := deathCode_ok h
  have h30 := port_hold h1
  simp only [portB, Bool.and_eq_true, decide_eq_true_eq, List.all_eq_true] at h1 ⊢
  refine ⟨h1.1, ?_, ?_⟩
  · have := olderL_length b (xs.zip ds); simp at this; omega
  · intro z hz
    obtain ⟨⟨x, d⟩, hm, he⟩ := List.mem_filterMap.1 hz
    have hst := List.any_eq_false.1 hs _ hm
    have hdd := List.all_eq_true.1 h3 _ hm
    simp only at he hst hdd
    split at he
    · cases he
    · rename_i hg
      cases he
      exact older_hold (h1.2.2 x (List.of_mem_zip hm).1) (inR_true.1 hdd) (by simpa using hg) (by simpa using hst)
/-- how many are there still -/
def leftV (b : Bas) (p : Holding × Int) : Int := if p.1.year + 1 < durP b p.1.pol then p.1.count - p.2 else 0
def leftL (b : Bas) (xs : List Holding) (ds : List Int) : List Int := (xs.zip ds).map (leftV b)
theorem leftL_get {b : Bas} {xs : List Holding} {ds : List Int} {k : Nat} {x : Holding} {d : Int} (hx : xs[k]? = some x) (hd : ds[k]? = some d) : (leftL b xs ds)[k]? = some (leftV b (x, d)) := by
  simp [leftL, pair_get hx hd]
def countL (xs : List Holding) : List Int := xs.map fun x => x.count
theorem older_count {b : Bas} : ∀ (ps : List (Holding × Int)), (∀ p ∈ ps, holdB b p.1 = true) → (countL (olderL b ps)).sum = (ps.map (leftV b)).sum
  | [], _ => rfl
  | (x, d) :: ps, h => by
    have ih := older_count ps (fun p hp => h p (by simp [hp]))
    obtain ⟨_, Y⟩ := hold_ok (h (x, d) (by simp))
    have k1 := Y.k1
    simp only [List.map_cons, List.sum_cons, leftV]
    have hk : x.year ≤ durP b x.pol - 1 := k1
    cases hg : goneB b x d
    · have e : olderL b ((x, d) :: ps) = x.older d :: olderL b ps := by simp [olderL, hg]
      rw [e]
      simp only [goneB, Bool.or_eq_false_iff, beq_eq_false_iff_ne] at hg
      rw [if_pos (by have := hg.2; omega)]
      show (x.older d).count + (countL (olderL b ps)).sum = _
      rw [ih]
      rfl
    · have e : olderL b ((x, d) :: ps) = olderL b ps := by simp [olderL, hg]
      rw [e, ih]
      simp only [goneB, Bool.or_eq_true, beq_iff_eq] at hg
      split
      · rcases hg with hg | hg
        · omega
        · omega
      · omega
end Go.Proofs.Ytbjdbpdgacfcpaa
end
