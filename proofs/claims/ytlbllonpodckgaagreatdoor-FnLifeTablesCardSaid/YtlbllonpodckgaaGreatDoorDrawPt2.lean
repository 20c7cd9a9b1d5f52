/- Draws of life tables: whatever is drawn, its lives are a list of its own, and nothing but the source turns. -/
import Derived.Test.YtlbllonpodckgaaGreatDoorDrawPt
import Derived.Deep.Cut
namespace Go.Proofs.YtlbllonpodckgaaGreatDoor
open Go.RowKit Go.BigFrame

theorem IntsBy.more {B B' n c : Nat} {lo hi : Int} {w : World} {A : Option Addr} (h : IntsBy B w A n c lo hi) (hB : B' ≤ B) : IntsBy B' w A n c lo hi := by
  obtain ⟨xs, hR, hf⟩ := h
  exact ⟨xs, hR.more hB, hf⟩
theorem IntsBy.nx {K : Code} {g B n c : Nat} {lo hi : Int} {w w' : World} {A : Option Addr} (h : IntsBy B w A n c lo hi) (hT : Nx K g w w') (hB : g < B) : IntsBy B w' A n c lo hi := by
  obtain ⟨xs, hR, hf⟩ := h
  exact ⟨xs, hR.nx hT hB, hf⟩
theorem IntsBy.past {B n c : Nat} {lo hi : Int} {w w' : World} {A : Option Addr} (h : IntsBy B w A n c lo hi) (hb : Below w.heap.size w w') : IntsBy B w' A n c lo hi := by
  obtain ⟨xs, hR, hf⟩ := h
  exact ⟨xs, hR.past hb, hf⟩
theorem IntsBy.wide {B n c : Nat} {lo hi lo' hi' : Int} {w : World} {A : Option Addr} (h : IntsBy B w A n c lo hi) (h1 : lo' ≤ lo) (h2 : hi ≤ hi') : IntsBy B w A n c lo' hi' := by
  obtain ⟨xs, hR, hf⟩ := h
  exact ⟨xs, hR, fun x hx => by have := hf x hx; omega⟩
theorem ints_rd {B n c : Nat} {lo hi : Int} {w : World} {A : Option Addr} (h : IntsBy B w A n c lo hi) : ∃ xs : List Int, xs.length = n ∧ Rd w w.heap.size A 1 (intRows xs) ∧ ∀ x ∈ xs, lo ≤ x ∧ x ≤ hi := by
  obtain ⟨xs, hR, hf⟩ := h
  exact ⟨xs, by have := hR.len; simpa [intRows] using this, hR.rd, hf⟩
/-- one number of an own list is written -/
theorem IntsBy.put {B n c k : Nat} {lo hi : Int} {w : World} {A : Option Addr} (h : IntsBy B w A n c lo hi) (hk : k < n) :
    ∃ g, A = some ⟨g, 0, none⟩ ∧ B ≤ g ∧ g < w.heap.size ∧ (∃ x : Int, w.cell? ⟨g, k, none⟩ = some (.int .i64 x)) ∧ w.frozen? ⟨g, k, none⟩ = false ∧ ∀ v : Int, lo ≤ v ∧ v ≤ hi → IntsBy B (w.setCell ⟨g, k, none⟩ (.int .i64 v)) A n c lo hi := by
  obtain ⟨xs, hR, hf⟩ := h
  have hl : xs.length = n := by have := hR.len; simpa [intRows] using this
  obtain ⟨x, hx⟩ := get_of_lt (xs := xs) (k := k) (by omega)
  obtain ⟨g, hg, hg1, hg2, hc, hz, hp⟩ := hR.putInt hx
  refine ⟨g, hg, hg1, hg2, ⟨x, hc⟩, hz, fun v hv => ⟨_, hp v, fun y hy => ?_⟩⟩
  rcases List.mem_or_eq_of_mem_set hy with h9 | h9
  · exact hf y h9
  · rw [h9]; exact hv

theorem IntsBy.lt {B n c b : Nat} {lo hi : Int} {w : World} {A : Option Addr} (h : IntsBy B w A n c lo hi) (hA : A = some ⟨b, 0, none⟩) : B ≤ b ∧ b < w.heap.size := by
  obtain ⟨xs, hR, _⟩ := h
  exact hR.lt hA
theorem IntsBy.at_ {B n c b k : Nat} {lo hi : Int} {w : World} (h : IntsBy B w (some ⟨b, 0, none⟩) n c lo hi) (hk : k < n) :
    (∃ x : Int, w.cell? ⟨b, k, none⟩ = some (.int .i64 x)) ∧ w.frozen? ⟨b, k, none⟩ = false ∧ ∀ v : Int, lo ≤ v ∧ v ≤ hi → IntsBy B (w.setCell ⟨b, k, none⟩ (.int .i64 v)) (some ⟨b, 0, none⟩) n c lo hi := by
  obtain ⟨g, hg, _, _, h1, h2, h3⟩ := h.put hk
  injection hg with hg; injection hg with hg
  subst hg
  exact ⟨h1, h2, h3⟩
theorem IntsBy.far {B n c b : Nat} {lo hi : Int} {w : World} (h : IntsBy B w (some ⟨b, 0, none⟩) n c lo hi) {p : Addr} (hne : b ≠ p.block) (v : Value) : IntsBy B (w.setCell p v) (some ⟨b, 0, none⟩) n c lo hi := by
  obtain ⟨xs, hR, hf⟩ := h
  exact ⟨xs, hR.keep fun g hg => Below.heap_setCell _ _ _ _ (by injection hg with hg; injection hg with hg; omega), hf⟩

set_option maxRecDepth 100000 in
set_option maxHeartbeats 4000000 in
theorem spec_l03Draw_any (K : Code) (hK : K.Ok) (g : Nat) (w0 : World) (w : World) (hT : Nx K g w0 w) :
    Calls Tryz.prog 113 #[.pointer (some ⟨g, 0, none⟩)] w fun e w' => ∃ (f : Int) (A' : Option Addr) (n' c' : Nat), e = .returned (.agg #[.int .i64 f, .slice A' n' c']) ∧ IntsBy w0.heap.size w' A' n' c' 0 1000001 ∧ (1 ≤ n' ∧ n' ≤ 30) ∧ (-1 ≤ f ∧ f ≤ 101) ∧ Nx K g w0 w' := by
  have HT0 := Lib.hid hT
  have hgw := hT.src.lt
  have hOw := (Nx.refl hT.src).alloc (.cells #[.int .i64 0, .slice none 0 0] 40)
  have HZ0 := Lib.hid (Blk.new w 40 #[.int .i64 0, .slice none 0 0])
  clear hT
  have hT := Nx.refl hOw.src
  go_enter Tryz.func113, Tryz.ntmps113
  have HSZ := Lib.hid (show w.heap.size + 1 = (w.alloc (.cells #[.int .i64 0, .slice none 0 0] 40)).heap.size by simp)
  go_wp2_with fail
  rw [HSZ.out]
  generalize w.alloc (.cells #[.int .i64 0, .slice none 0 0] 40) = Wa at hT hOw HZ0 HSZ ⊢
  go_upto_region 2 with (first | (go_at_call 74; refine (spec_l01Next_any K hK g _ _ _ (Nx.refl (Nx.src (by first | exact hT | exact hT.alloc _ | exact (hT.alloc _).alloc _ | exact hT.drew)))).mono ?_; rintro e w3 ⟨x, rfl, ⟨hx0, hx1⟩, hN⟩; have hT := Nx.trans (by first | exact hT | exact hT.alloc _ | exact (hT.alloc _).alloc _ | exact hT.drew) hN) | (go_at_call 79; refine (spec_l01Pick_new K hK g _ _ _ _ (by first | exact hT | exact hT.alloc _ | exact (hT.alloc _).alloc _ | exact hT.drew) (by rfl) (by decide) (by decide) (by rfl)).mono ?_; rintro e w3 ⟨x, rfl, hx, hT⟩; simp only [OneOf, Value.int.injEq, true_and, or_false] at hx) | ((go_at_call 169; refine (spec_l03DrawRates_any K hK g _ _ (by first | exact hT | exact hT.alloc _ | exact (hT.alloc _).alloc _ | exact hT.drew) ).mono ?_; rintro e w3 ⟨A1, n1, c1, rfl, hE, hn1, hT⟩); have hO := hT; have hT := Nx.refl hT.src) | (go_at_call 168; obtain ⟨rs, hrl, hrd, hrs⟩ := ints_rd hE; refine (MakeTable_draw _ _ A1 n1 c1 rs _ (by omega) (by omega) hrl hn1 hrd hrs).mono ?_; rintro e w4 ⟨A2, n2, c2, rfl, hE2, hn2, hb4⟩; have hT := Nx.past (by first | exact hT) hb4))
  rename_i fv hTa hxf va ya hTb vb hTc hTd hTe _ _ _ _
  have hf : 0 ≤ fv ∧ fv ≤ 50 := by omega
  have hE2 := hE2.wide (lo' := 0) (hi' := 1000001) (by omega) (by omega)
  obtain ⟨gA, hA, hA1, hA2, _⟩ := hE2.put (k := 0) (by omega)
  subst hA
  have hO2 := (hO.trans hT).alloc (.cells #[.int .i64 fv, .slice (some ⟨gA, 0, none⟩) n2 c2] 40)
  have HBX := Blk.new w4 40 #[.int .i64 fv, .slice (some ⟨gA, 0, none⟩) n2 c2]
  have hE3 := hE2.past ((Below.refl w4.heap.size w4).alloc (Nat.le_refl _) (.cells #[.int .i64 fv, .slice (some ⟨gA, 0, none⟩) n2 c2] 40))
  have hgb : g < w4.heap.size := hT.src.lt
  have hg3 : g < w3.heap.size := hO.src.lt
  have h3a : Wa.heap.size ≤ w3.heap.size := hO.size
  have hT := Nx.refl hO2.src
  clear hTa hTb hTc hTd hTe hN hb4 hE hE2 hrd
  generalize w4.alloc (.cells #[.int .i64 fv, .slice (some ⟨gA, 0, none⟩) n2 c2] 40) = Wc at hO2 HBX hE3 hT ⊢
  generalize w4.heap.size = Gb at HBX hA2 hgb ⊢
  have HA := Lib.hid (And.intro hA1 hA2); clear hA1 hA2
  have HE3 := Lib.hid hE3; clear hE3
  have HO2 := Lib.hid hO2; clear hO2 hO
  have HBX := Lib.hid HBX
  have hWc : Wa.heap.size ≤ Wc.heap.size := HO2.out.size
  have hza : w.heap.size < Wa.heap.size := HZ0.out.lt
  have hneg : w.heap.size ≠ g := by omega
  have hn21 : n2 - 1 < n2 := by omega
  go_upto_region 9 with (first | ((go_at_call 74; refine (spec_l01Next_any K hK g _ _ _ (Nx.refl (Nx.src (by first | exact hT | exact hT.alloc _ | exact (hT.alloc _).alloc _ | exact hT.drew)))).mono ?_; rintro e w3 ⟨x, rfl, ⟨hx0, hx1⟩, hN⟩; have hT := Nx.trans (by first | exact hT | exact hT.alloc _ | exact (hT.alloc _).alloc _ | exact hT.drew) hN); have hB3 := HBX.out.nx hT (Nat.ne_of_gt hgb); have b0 : w3.cell? ⟨Gb, 0, none⟩ = some (.int .i64 fv) := hB3.cell 0; have b1 : w3.cell? ⟨Gb, 1, none⟩ = some (.slice (some ⟨gA, 0, none⟩) n2 c2) := hB3.cell 1; have z0 : w3.frozen? ⟨Gb, 0, none⟩ = false := hB3.frozen 0; obtain ⟨⟨y1, e1⟩, z1, hp1⟩ := (HE3.out.nx hT hg3).at_ hn21) | ((go_at_call 79; refine (spec_l01Pick_new K hK g _ _ _ _ (by first | exact hT | exact hT.alloc _ | exact (hT.alloc _).alloc _ | exact hT.drew) (by rfl) (by decide) (by decide) (by rfl)).mono ?_; rintro e w3 ⟨x, rfl, hx, hT⟩; simp only [OneOf, Value.int.injEq, true_and, or_false] at hx); have hB3 := HBX.out.nx hT (Nat.ne_of_gt hgb); have b0 : w3.cell? ⟨Gb, 0, none⟩ = some (.int .i64 fv) := hB3.cell 0; have z0 : w3.frozen? ⟨Gb, 0, none⟩ = false := hB3.frozen 0))
  · have HD := Lib.hid hT.drew
    have HD2 := Lib.hid ((hT.alloc (.cells #[.int .i64 0, .int .i64 1000000, .int .i64 1000001] 2)).drew)
    have HD3 := Lib.hid (hT.alloc (.cells #[.int .i64 0, .int .i64 1000000, .int .i64 1000001] 2))
    have HBL := Lib.hid ((Blk.new w3 2 #[.int .i64 0, .int .i64 1000000, .int .i64 1000001]).drew)
    have HGL := Lib.hid hT.src.lt
    have HS5 := Lib.hid (fun w' (h : Nx K g Wc w') => (show Nx K g Wa w' ∧ w'.cell? ⟨Gb, 1, none⟩ = some (.slice (some ⟨gA, 0, none⟩) n2 c2) from ⟨HO2.out.trans h, (HBX.out.nx h (Nat.ne_of_gt hgb)).cell 1⟩))
    have HS6 := Lib.hid (fun w' (x : Int) (h : Nx K g Wc w') => (show Nx K g Wa (w'.setCell ⟨gA, 0, none⟩ (.int .i64 x)) ∧ (w'.setCell ⟨gA, 0, none⟩ (.int .i64 x)).cell? ⟨Gb, 1, none⟩ = some (.slice (some ⟨gA, 0, none⟩) n2 c2) from by
      obtain ⟨hA1, hA2⟩ := HA.out
      exact ⟨(HO2.out.trans h).kept (B := Wa.heap.size) (by omega) (Nat.le_refl _) ((Below.refl _ _).setCell (p := ⟨gA, 0, none⟩) (by show Wa.heap.size ≤ gA; omega) _), ((HBX.out.nx h (Nat.ne_of_gt hgb)).far (p := ⟨gA, 0, none⟩) (by show Gb ≠ gA; omega) _).cell 1⟩))
    have hn0 : (0 : Int) < (n2 : Int) := by omega
    have hn0' : 0 < n2 := by omega
    clear b0 b1 z0 e1 z1 hp1 hB3
    go_region_held3 (fun w' => Nx K g Wa w' ∧ w'.cell? ⟨Gb, 1, none⟩ = some (.slice (some ⟨gA, 0, none⟩) n2 c2)) (first | exact HS6.out _ _ HP.out | exact HS5.out _ HP.out | exact HS5.out _ HD2.out | exact HS5.out _ HD3.out | exact HS5.out _ HD.out) (first | (go_at_call 79; refine (spec_l01Pick_any K hK g _ w3.heap.size [.int .i64 0, .int .i64 1000000, .int .i64 1000001] 3 _ HD2.out HBL.out HGL.out rfl (by decide) (by decide) rfl).mono ?_; rintro e w5 ⟨xp, rfl, hxp, hT5⟩; simp only [OneOf, Value.int.injEq, true_and, or_false] at hxp; have HP := Lib.hid hT5; obtain ⟨⟨y0, e0⟩, zz0, hp0⟩ := (HE3.out.nx hT5 hg3).at_ (k := 0) (by omega)))
    obtain ⟨hA1, hA2⟩ := HA.out
    have hZW := ((HZ0.out.nx (HO2.out.trans HP.out) hneg).far (p := ⟨gA, 0, none⟩) (by show w.heap.size ≠ gA; omega) (.int .i64 xp))
    have hNW := ((hOw.trans (HO2.out.trans HP.out)).kept hgw (Nat.le_refl _) ((Below.refl _ _).setCell (p := ⟨gA, 0, none⟩) (by show w.heap.size ≤ gA; omega) (.int .i64 xp)))
    have hBW := ((HBX.out.nx HP.out (Nat.ne_of_gt hgb)).far (p := ⟨gA, 0, none⟩) (by show Gb ≠ gA; omega) (.int .i64 xp))
    have hEW := hp0 xp (by omega)
    have hcO := Lib.hid (Blk.agg (cs := [.int .i64 fv, .slice (some ⟨gA, 0, none⟩) n2 c2]) hBW 0 [.int .i64 fv, .slice (some ⟨gA, 0, none⟩) n2 c2] rfl)
    have H1 : Hid (∀ v ∈ ([.int .i64 fv, .slice (some ⟨gA, 0, none⟩) n2 c2] : List Value), v.oneCell' = true) := Lib.hid (by simp [Value.oneCell'])
    have HEW := Lib.hid hEW; have HNW := Lib.hid hNW
    clear hEW hNW hBW
    go_wp2_with (first | (refine wpList_load_agg rfl 40 _ rfl ⟨Gb, 0, none⟩ rfl [.int .i64 fv, .slice (some ⟨gA, 0, none⟩) n2 c2] hcO.out _ Tryz.underlying40 rfl Tab.size ?_) | (refine wpList_store_agg rfl 40 _ _ rfl (w.heap.size) 0 [.int .i64 fv, .slice (some ⟨gA, 0, none⟩) n2 c2] rfl rfl 40 #[.int .i64 0, .slice none 0 0] hZW Tab.size (by simp) H1.out ?_))
    intro w6 hR6 hg6 _
    have hR6' : Blk w6 (w.heap.size) 40 #[.int .i64 fv, .slice (some ⟨gA, 0, none⟩) n2 c2] := hR6
    have r0 : w6.cell? ⟨w.heap.size, 0, none⟩ = some (.int .i64 (fv)) := hR6'.cell 0
    have r1 : w6.cell? ⟨w.heap.size, 1, none⟩ = some (.slice (some ⟨gA, 0, none⟩) n2 c2) := hR6'.cell 1
    go_wp2
    refine bodyPost_ret (v := .agg #[.int .i64 fv, .slice (some ⟨gA, 0, none⟩) n2 c2]) (by simp [results, Tryz.results113, go_sem, r0, r1]) rfl ?_
    refine ⟨fv, some ⟨gA, 0, none⟩, n2, c2, rfl, ?_, hn2, by omega, HT0.out.trans (HNW.out.kept hgw (Nat.le_refl _) ((Below.refl _ _).grown hg6 (Nat.le_of_lt hZW.lt) (fun k hk => by injection hk with hk; omega)))⟩
    obtain ⟨xs, hRx, hfx⟩ := HEW.out
    exact ⟨xs, (hRx.keep fun g' hg' => hg6.block g' (hRx.lt hg').2 (fun e => by injection e with e; have := (hRx.lt hg').1; have := HSZ.out; omega)).more (by have := HT0.out.size; have := HSZ.out; omega), hfx⟩
  · obtain ⟨hA1, hA2⟩ := HA.out
    have hZW := ((HZ0.out.nx (HO2.out.trans hT) hneg).far (p := ⟨gA, n2 - 1, none⟩) (by show w.heap.size ≠ gA; omega) (.int .i64 1))
    have hNW := ((hOw.trans (HO2.out.trans hT)).kept hgw (Nat.le_refl _) ((Below.refl _ _).setCell (p := ⟨gA, n2 - 1, none⟩) (by show w.heap.size ≤ gA; omega) (.int .i64 1)))
    have hBW := ((HBX.out.nx hT (Nat.ne_of_gt hgb)).far (p := ⟨gA, n2 - 1, none⟩) (by show Gb ≠ gA; omega) (.int .i64 1))
    have hEW := (hp1 1 (by omega))
    have hcO := Lib.hid (Blk.agg (cs := [.int .i64 fv, .slice (some ⟨gA, 0, none⟩) n2 c2]) hBW 0 [.int .i64 fv, .slice (some ⟨gA, 0, none⟩) n2 c2] rfl)
    have H1 : Hid (∀ v ∈ ([.int .i64 fv, .slice (some ⟨gA, 0, none⟩) n2 c2] : List Value), v.oneCell' = true) := Lib.hid (by simp [Value.oneCell'])
    have HEW := Lib.hid hEW; have HNW := Lib.hid hNW
    clear hEW hNW hBW
    go_wp2_with (first | (refine wpList_load_agg rfl 40 _ rfl ⟨Gb, 0, none⟩ rfl [.int .i64 fv, .slice (some ⟨gA, 0, none⟩) n2 c2] hcO.out _ Tryz.underlying40 rfl Tab.size ?_) | (refine wpList_store_agg rfl 40 _ _ rfl (w.heap.size) 0 [.int .i64 fv, .slice (some ⟨gA, 0, none⟩) n2 c2] rfl rfl 40 #[.int .i64 0, .slice none 0 0] hZW Tab.size (by simp) H1.out ?_))
    intro w6 hR6 hg6 _
    have hR6' : Blk w6 (w.heap.size) 40 #[.int .i64 fv, .slice (some ⟨gA, 0, none⟩) n2 c2] := hR6
    have r0 : w6.cell? ⟨w.heap.size, 0, none⟩ = some (.int .i64 (fv)) := hR6'.cell 0
    have r1 : w6.cell? ⟨w.heap.size, 1, none⟩ = some (.slice (some ⟨gA, 0, none⟩) n2 c2) := hR6'.cell 1
    go_wp2
    refine bodyPost_ret (v := .agg #[.int .i64 fv, .slice (some ⟨gA, 0, none⟩) n2 c2]) (by simp [results, Tryz.results113, go_sem, r0, r1]) rfl ?_
    refine ⟨fv, some ⟨gA, 0, none⟩, n2, c2, rfl, ?_, hn2, by omega, HT0.out.trans (HNW.out.kept hgw (Nat.le_refl _) ((Below.refl _ _).grown hg6 (Nat.le_of_lt hZW.lt) (fun k hk => by injection hk with hk; omega)))⟩
    obtain ⟨xs, hRx, hfx⟩ := HEW.out
    exact ⟨xs, (hRx.keep fun g' hg' => hg6.block g' (hRx.lt hg').2 (fun e => by injection e with e; have := (hRx.lt hg').1; have := HSZ.out; omega)).more (by have := HT0.out.size; have := HSZ.out; omega), hfx⟩
  · have hB9 : Blk (w3.setCell ⟨Gb, 0, none⟩ (.int .i64 x)) Gb 40 #[.int .i64 x, .slice (some ⟨gA, 0, none⟩) n2 c2] := by simpa using hB3.set_ 0 (.int .i64 x)
    obtain ⟨hA1, hA2⟩ := HA.out
    have hZW := ((HZ0.out.nx (HO2.out.trans hT) hneg).far (p := ⟨Gb, 0, none⟩) (by show w.heap.size ≠ Gb; omega) (.int .i64 x))
    have hNW := ((hOw.trans (HO2.out.trans hT)).kept hgw (Nat.le_refl _) ((Below.refl _ _).setCell (p := ⟨Gb, 0, none⟩) (by show w.heap.size ≤ Gb; omega) (.int .i64 x)))
    have hBW := hB9
    have hEW := ((HE3.out.nx hT hg3).far (p := ⟨Gb, 0, none⟩) (by show gA ≠ Gb; omega) (.int .i64 x))
    have hcO := Lib.hid (Blk.agg (cs := [.int .i64 x, .slice (some ⟨gA, 0, none⟩) n2 c2]) hBW 0 [.int .i64 x, .slice (some ⟨gA, 0, none⟩) n2 c2] rfl)
    have H1 : Hid (∀ v ∈ ([.int .i64 x, .slice (some ⟨gA, 0, none⟩) n2 c2] : List Value), v.oneCell' = true) := Lib.hid (by simp [Value.oneCell'])
    have HEW := Lib.hid hEW; have HNW := Lib.hid hNW
    clear hEW hNW hBW
    go_wp2_with (first | (refine wpList_load_agg rfl 40 _ rfl ⟨Gb, 0, none⟩ rfl [.int .i64 x, .slice (some ⟨gA, 0, none⟩) n2 c2] hcO.out _ Tryz.underlying40 rfl Tab.size ?_) | (refine wpList_store_agg rfl 40 _ _ rfl (w.heap.size) 0 [.int .i64 x, .slice (some ⟨gA, 0, none⟩) n2 c2] rfl rfl 40 #[.int .i64 0, .slice none 0 0] hZW Tab.size (by simp) H1.out ?_))
    intro w6 hR6 hg6 _
    have hR6' : Blk w6 (w.heap.size) 40 #[.int .i64 x, .slice (some ⟨gA, 0, none⟩) n2 c2] := hR6
    have r0 : w6.cell? ⟨w.heap.size, 0, none⟩ = some (.int .i64 (x)) := hR6'.cell 0
    have r1 : w6.cell? ⟨w.heap.size, 1, none⟩ = some (.slice (some ⟨gA, 0, none⟩) n2 c2) := hR6'.cell 1
    go_wp2
    refine bodyPost_ret (v := .agg #[.int .i64 x, .slice (some ⟨gA, 0, none⟩) n2 c2]) (by simp [results, Tryz.results113, go_sem, r0, r1]) rfl ?_
    refine ⟨x, some ⟨gA, 0, none⟩, n2, c2, rfl, ?_, hn2, by omega, HT0.out.trans (HNW.out.kept hgw (Nat.le_refl _) ((Below.refl _ _).grown hg6 (Nat.le_of_lt hZW.lt) (fun k hk => by injection hk with hk; omega)))⟩
    obtain ⟨xs, hRx, hfx⟩ := HEW.out
    exact ⟨xs, (hRx.keep fun g' hg' => hg6.block g' (hRx.lt hg').2 (fun e => by injection e with e; have := (hRx.lt hg').1; have := HSZ.out; omega)).more (by have := HT0.out.size; have := HSZ.out; omega), hfx⟩
  · obtain ⟨hA1, hA2⟩ := HA.out
    have hZW := (HZ0.out.nx (HO2.out.trans hT) hneg)
    have hNW := (hOw.trans (HO2.out.trans hT))
    have hBW := hB3
    have hEW := (HE3.out.nx hT hg3)
    have hcO := Lib.hid (Blk.agg (cs := [.int .i64 fv, .slice (some ⟨gA, 0, none⟩) n2 c2]) hBW 0 [.int .i64 fv, .slice (some ⟨gA, 0, none⟩) n2 c2] rfl)
    have H1 : Hid (∀ v ∈ ([.int .i64 fv, .slice (some ⟨gA, 0, none⟩) n2 c2] : List Value), v.oneCell' = true) := Lib.hid (by simp [Value.oneCell'])
    have HEW := Lib.hid hEW; have HNW := Lib.hid hNW
    clear hEW hNW hBW
    go_wp2_with (first | (refine wpList_load_agg rfl 40 _ rfl ⟨Gb, 0, none⟩ rfl [.int .i64 fv, .slice (some ⟨gA, 0, none⟩) n2 c2] hcO.out _ Tryz.underlying40 rfl Tab.size ?_) | (refine wpList_store_agg rfl 40 _ _ rfl (w.heap.size) 0 [.int .i64 fv, .slice (some ⟨gA, 0, none⟩) n2 c2] rfl rfl 40 #[.int .i64 0, .slice none 0 0] hZW Tab.size (by simp) H1.out ?_))
    intro w6 hR6 hg6 _
    have hR6' : Blk w6 (w.heap.size) 40 #[.int .i64 fv, .slice (some ⟨gA, 0, none⟩) n2 c2] := hR6
    have r0 : w6.cell? ⟨w.heap.size, 0, none⟩ = some (.int .i64 (fv)) := hR6'.cell 0
    have r1 : w6.cell? ⟨w.heap.size, 1, none⟩ = some (.slice (some ⟨gA, 0, none⟩) n2 c2) := hR6'.cell 1
    go_wp2
    refine bodyPost_ret (v := .agg #[.int .i64 fv, .slice (some ⟨gA, 0, none⟩) n2 c2]) (by simp [results, Tryz.results113, go_sem, r0, r1]) rfl ?_
    refine ⟨fv, some ⟨gA, 0, none⟩, n2, c2, rfl, ?_, hn2, by omega, HT0.out.trans (HNW.out.kept hgw (Nat.le_refl _) ((Below.refl _ _).grown hg6 (Nat.le_of_lt hZW.lt) (fun k hk => by injection hk with hk; omega)))⟩
    obtain ⟨xs, hRx, hfx⟩ := HEW.out
    exact ⟨xs, (hRx.keep fun g' hg' => hg6.block g' (hRx.lt hg').2 (fun e => by injection e with e; have := (hRx.lt hg').1; have := HSZ.out; omega)).more (by have := HT0.out.size; have := HSZ.out; omega), hfx⟩
end Go.Proofs.YtlbllonpodckgaaGreatDoor
