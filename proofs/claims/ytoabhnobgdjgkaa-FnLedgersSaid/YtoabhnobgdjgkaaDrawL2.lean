/- What the laws on ledgers draw. -/
import Derived.Test.YtoabhnobgdjgkaaDrawL
import Derived.Deep.Cut
import Derived.Test.YtoabhnobgdjgkaaTail
namespace Go.Proofs.Ytoabhnobgdjgkaa
open Go.RowKit Go.BigFrame
theorem Blk.aggq {w : World} {g : Nat} {t : TypeId} {cs : List Value} (h : Blk w g t cs.toArray) (o : Nat) (vs : List Value) (e : (cs.drop o).take vs.length = vs) :
    ∀ (j : Nat) (v : Value), vs[j]? = some v → w.cell? ((⟨g, o, none⟩ : Addr).add j) = some v := by
  intro j v hv
  rw [add_none, h.cell, List.getElem?_toArray]
  have hj := (List.getElem?_eq_some_iff.1 hv).1
  rw [← e, List.getElem?_take, if_pos hj, List.getElem?_drop] at hv
  exact hv
theorem Blk.aggq_past {w : World} {g : Nat} {t : TypeId} {cs : List Value} (h : Blk w g t cs.toArray) (o : Nat) (vs : List Value) (e : (cs.drop o).take vs.length = vs) :
    ∀ w', (∃ y : Past w, w' = y.1) → ∀ (j : Nat) (v : Value), vs[j]? = some v → w'.cell? ((⟨g, o, none⟩ : Addr).add j) = some v := by
  rintro _ ⟨y, rfl⟩
  exact Blk.aggq (h.below' y.2) o vs e

theorem spec_DrawAccountBalance_any (K : Code) (hK : K.Ok) (w : World) (hX : Rd w w.heap.size K.A 1 (byteRows K.bs)) :
    Calls Try.prog 26 #[.slice K.A K.n K.c] w fun e w' => ∃ (A' : Option Addr) (n' c' : Nat) (a u : Int), e = .returned (.tuple #[.slice A' n' c', .int .i64 a, .int .i64 u]) ∧ EntriesBy w.heap.size w' A' n' c' ∧ n' ≤ 200 ∧ (In64 a ∧ In64 u) ∧ Below w.heap.size w w' := by
  go_enter Try.func26, Try.ntmps26
  go_wp2_with fail
  refine (spec_l01From_any K hK _ hX).mono ?_
  rintro e w1 ⟨g, rfl, hg, hb, hS⟩
  have hT := Nx.refl hS
  go_wp2_with (first | ((go_at_call 73; refine (spec_l22Draw_any K hK g _ _ (by first | exact hT | exact hT.alloc _ | exact (hT.alloc _).alloc _ | exact hT.drew) ).mono ?_; rintro e w3 ⟨A1, n1, c1, rfl, hE, hn1, hT⟩); have hO := hT; have hT := Nx.refl hT.src) | (go_at_call 78; refine (spec_l01Next_any K hK g _ _ _ (Nx.refl (Nx.src (by first | exact hT | exact hT.alloc _ | exact (hT.alloc _).alloc _ | exact hT.drew)))).mono ?_; rintro e w3 ⟨x, rfl, ⟨hx0, hx1⟩, hN⟩; have hT := Nx.trans (by first | exact hT | exact hT.alloc _ | exact (hT.alloc _).alloc _ | exact hT.drew) hN) | (go_at_call 79; refine (spec_l01Pick_new K hK g _ _ _ _ (by first | exact hT | exact hT.alloc _ | exact (hT.alloc _).alloc _ | exact hT.drew) (by rfl) (by decide) (by decide) (by rfl)).mono ?_; rintro e w3 ⟨x, rfl, hx, hT⟩; simp only [OneOf, Value.int.injEq, true_and, or_false] at hx) | (go_at_call 80; refine (spec_l02Draw_any K hK g _ _ (by first | exact hT | exact hT.alloc _ | exact (hT.alloc _).alloc _ | exact hT.drew) ).mono ?_; rintro e w3 ⟨y, rfl, hy, hT⟩))
  go_ret3
  exact ⟨_, _, _, _, _, rfl, (hE.nx hT hS.lt).more hb.size, hn1, ⟨in64_of (by omega), in64_of (by omega)⟩, hb.trans ((hO.trans hT).out hg)⟩

theorem spec_DrawReverseEntry_any (K : Code) (hK : K.Ok) (w : World) (hX : Rd w w.heap.size K.A 1 (byteRows K.bs)) :
    Calls Try.prog 29 #[.slice K.A K.n K.c] w fun e w' => ∃ (A' : Option Addr) (n' c' : Nat) (a u : Int), e = .returned (.tuple #[.slice A' n' c', .int .i64 a, .int .i64 u]) ∧ EntriesBy w.heap.size w' A' n' c' ∧ n' ≤ 200 ∧ (In64 a ∧ In64 u) ∧ Below w.heap.size w w' := by
  go_enter Try.func29, Try.ntmps29
  go_wp2_with fail
  refine (spec_l01From_any K hK _ hX).mono ?_
  rintro e w1 ⟨g, rfl, hg, hb, hS⟩
  have hT := Nx.refl hS
  go_wp2_with (first | ((go_at_call 73; refine (spec_l22Draw_any K hK g _ _ (by first | exact hT | exact hT.alloc _ | exact (hT.alloc _).alloc _ | exact hT.drew) ).mono ?_; rintro e w3 ⟨A1, n1, c1, rfl, hE, hn1, hT⟩); have hO := hT; have hT := Nx.refl hT.src) | (go_at_call 78; refine (spec_l01Next_any K hK g _ _ _ (Nx.refl (Nx.src (by first | exact hT | exact hT.alloc _ | exact (hT.alloc _).alloc _ | exact hT.drew)))).mono ?_; rintro e w3 ⟨x, rfl, ⟨hx0, hx1⟩, hN⟩; have hT := Nx.trans (by first | exact hT | exact hT.alloc _ | exact (hT.alloc _).alloc _ | exact hT.drew) hN) | (go_at_call 79; refine (spec_l01Pick_new K hK g _ _ _ _ (by first | exact hT | exact hT.alloc _ | exact (hT.alloc _).alloc _ | exact hT.drew) (by rfl) (by decide) (by decide) (by rfl)).mono ?_; rintro e w3 ⟨x, rfl, hx, hT⟩; simp only [OneOf, Value.int.injEq, true_and, or_false] at hx) | (go_at_call 80; refine (spec_l02Draw_any K hK g _ _ (by first | exact hT | exact hT.alloc _ | exact (hT.alloc _).alloc _ | exact hT.drew) ).mono ?_; rintro e w3 ⟨y, rfl, hy, hT⟩))
  go_ret3
  exact ⟨_, _, _, _, _, rfl, (hE.nx hT hS.lt).more hb.size, hn1, ⟨in64_of (by omega), in64_of (by omega)⟩, hb.trans ((hO.trans hT).out hg)⟩

theorem spec_DrawBookEntry_any (K : Code) (hK : K.Ok) (w : World) (hX : Rd w w.heap.size K.A 1 (byteRows K.bs)) :
    Calls Try.prog 32 #[.slice K.A K.n K.c] w fun e w' => ∃ (A' : Option Addr) (n' c' : Nat) (x : Entry), e = .returned (.tuple #[.slice A' n' c', .agg x.row.toArray]) ∧ EntriesBy w.heap.size w' A' n' c' ∧ n' ≤ 200 ∧ x.fits ∧ Below w.heap.size w w' := by
  have hbw : Below w.heap.size w (w.alloc (.cells #[.int .i64 0, .int .i64 0, .int .i64 0, .int .i64 0] 56)) := (Below.refl _ w).alloc (Nat.le_refl _) _
  have HB0 := Blk.new w 56 #[.int .i64 0, .int .i64 0, .int .i64 0, .int .i64 0]
  go_enter Try.func32, Try.ntmps32
  go_wp2_with fail
  refine (spec_l01From_any K hK _ (hX.past hbw)).mono ?_
  rintro e w1 ⟨g, rfl, hg, hb, hS⟩
  have HB1 := HB0.below' hb
  have hb := hbw.trans (hb.mono hbw.size)
  have hT := Nx.refl hS
  go_upto_region 4 with (first | ((go_at_call 73; refine (spec_l22Draw_any K hK g _ _ (by first | exact hT | exact hT.alloc _ | exact (hT.alloc _).alloc _ | exact hT.drew) ).mono ?_; rintro e w3 ⟨A1, n1, c1, rfl, hE, hn1, hT⟩); have hO := hT; have hT := Nx.refl hT.src) | (go_at_call 78; refine (spec_l01Next_any K hK g _ _ _ (Nx.refl (Nx.src (by first | exact hT | exact hT.alloc _ | exact (hT.alloc _).alloc _ | exact hT.drew)))).mono ?_; rintro e w3 ⟨x, rfl, ⟨hx0, hx1⟩, hN⟩; have hT := Nx.trans (by first | exact hT | exact hT.alloc _ | exact (hT.alloc _).alloc _ | exact hT.drew) hN) | (go_at_call 79; refine (spec_l01Pick_new K hK g _ _ _ _ (by first | exact hT | exact hT.alloc _ | exact (hT.alloc _).alloc _ | exact hT.drew) (by rfl) (by decide) (by decide) (by rfl)).mono ?_; rintro e w3 ⟨x, rfl, hx, hT⟩; simp only [OneOf, Value.int.injEq, true_and, or_false] at hx))
  rename_i v2 mo hN2 m0 m1 hT2 v1 de hN1 d0 d1 hT1 v0 cr hN0 r0 r1 hT0 _ _ _ _
  rename Int => am
  have HE0 := Blk.new w3 56 #[.int .i64 (22000 + mo), .int .i64 de, .int .i64 cr, .int .i64 (1 + am)]
  have hNA := (Nx.refl hT.src).alloc (.cells #[.int .i64 (22000 + mo), .int .i64 de, .int .i64 cr, .int .i64 (1 + am)] 56)
  have hgG := hT.src.lt
  obtain ⟨xs, hRE, hfE⟩ := hE
  have hRE := hRE.nx hT hS.lt
  have HLT := Lib.hid (fun h' (hh : A1 = some ⟨h', 0, none⟩) => (hRE.lt hh).2)
  have HRE := Lib.hid (hRE.nx hNA hS.lt)
  clear hRE
  have HFE := Lib.hid hfE; clear hfE
  have hO := (hO.trans hT).trans hNA
  have hT := Nx.refl hO.src
  clear hNA hN hT0 hT1 hT2 hN0 hN1 hN2
  generalize w3.alloc (.cells #[.int .i64 (22000 + mo), .int .i64 de, .int .i64 cr, .int .i64 (1 + am)] 56) = Wb at HE0 hO hT HRE ⊢
  generalize w3.heap.size = G at HE0 hgG HLT ⊢
  go_wp2_with (first | (go_at_call 78; refine (spec_l01Next_any K hK g _ _ _ (Nx.refl (Nx.src (by first | exact hT | exact hT.alloc _ | exact (hT.alloc _).alloc _ | exact hT.drew)))).mono ?_; rintro e w3 ⟨x, rfl, ⟨hx0, hx1⟩, hN⟩; have hT := Nx.trans (by first | exact hT | exact hT.alloc _ | exact (hT.alloc _).alloc _ | exact hT.drew) hN) | ((go_at_call 79; refine (spec_l01Pick_new K hK g _ _ _ _ (by first | exact hT | exact hT.alloc _ | exact (hT.alloc _).alloc _ | exact hT.drew) (by rfl) (by decide) (by decide) (by rfl)).mono ?_; rintro e w3 ⟨x, rfl, hx, hT⟩; simp only [OneOf, Value.int.injEq, true_and, or_false] at hx); have hK := HE0.nx hT (Nat.ne_of_gt hgG); have k3 : w3.cell? ⟨G, 3, none⟩ = some (.int .i64 (1 + am)) := hK.cell 3; have z3 : w3.frozen? ⟨G, 3, none⟩ = false := hK.frozen 3))
  · have hKG : Blk (w3.setCell ⟨G, 3, none⟩ (.int .i64 x)) G 56 #[.int .i64 (22000 + mo), .int .i64 de, .int .i64 cr, .int .i64 x] := by simpa using hK.set_ 3 (.int .i64 x)
    have hltw : w.heap.size < w1.heap.size := HB1.lt
    have hg1 := hS.lt
    have hgw : w.heap.size < g := by have := hg; simp at this; omega
    have hGw : w.heap.size < G := by omega
    clear k3 z3
    have hcE := Lib.hid (Blk.aggq_past (cs := [.int .i64 (22000 + mo), .int .i64 de, .int .i64 cr, .int .i64 x]) hKG 0 [.int .i64 (22000 + mo), .int .i64 de, .int .i64 cr, .int .i64 x] rfl)
    have HZ9 := Lib.hid ((HB1.nx (hO.trans hT) (Nat.ne_of_lt hgw)).far (p := ⟨G, 3, none⟩) (Nat.ne_of_lt hGw) (.int .i64 x))
    have HR9 := Lib.hid ((HRE.out.nx hT hS.lt).keep (w' := w3.setCell ⟨G, 3, none⟩ (.int .i64 x)) fun h' hh => Below.heap_setCell _ _ _ _ (fun e => by have := HLT.out h' hh; simp only at e; omega))
    have HB9 := Lib.hid ((hb.trans ((hO.trans hT).out (by have := hg; simp at this; omega))).setCell (p := ⟨G, 3, none⟩) (Nat.le_of_lt hGw) (.int .i64 x))
    have H1 : Hid (∀ v ∈ ([.int .i64 (22000 + mo), .int .i64 de, .int .i64 cr, .int .i64 x] : List Value), v.oneCell' = true) := Lib.hid (by simp [Value.oneCell'])
    have HFX := Lib.hid (show (⟨22000 + mo, de, cr, x⟩ : Entry).fits from (show In64 (22000 + mo) ∧ In64 de ∧ In64 cr ∧ In64 (x) from ⟨in64_of (by omega), in64_of (by omega), in64_of (by omega), in64_of (by omega)⟩))
    refine wp_region_past_tail 3 (by kernel_rfl) (by kernel_rfl) ?_
    simp only [List.take_succ_cons, List.take_zero, List.drop_succ_cons, List.drop_zero]
    repeat (first | (go_big_quiet_want; (first | (refine quiet_load_agg 56 _ rfl ⟨G, 0, none⟩ rfl [.int .i64 (22000 + mo), .int .i64 de, .int .i64 cr, .int .i64 x] hcE.out _ Try.underlying56 rfl Entry.size ?_)); go_simp; go_big_quiet_on) | go_big_quiet_step (fail))
    refine wpQuiet_nil ?_
    rintro _ ⟨y, rfl⟩
    have HZy := Lib.hid (HZ9.out.below' y.2)
    have HRy := Lib.hid (HR9.out.past y.2)
    have HBy := Lib.hid (HB9.out.trans (y.2.mono HB9.out.size))
    have hwy : w.heap.size < y.1.heap.size := HZy.out.lt
    go_wp2_with (refine wpList_store_agg rfl 56 _ _ rfl (w.heap.size) 0 [.int .i64 (22000 + mo), .int .i64 de, .int .i64 cr, .int .i64 x] rfl rfl 56 #[.int .i64 0, .int .i64 0, .int .i64 0, .int .i64 0] HZy.out Entry.size (by simp) H1.out ?_)
    intro w6 hR6 hg6 _
    have hR6' : Blk w6 (w.heap.size) 56 #[.int .i64 (22000 + mo), .int .i64 de, .int .i64 cr, .int .i64 x] := hR6
    have r0 : w6.cell? ⟨w.heap.size, 0, none⟩ = some (.int .i64 (22000 + mo)) := hR6'.cell 0
    have r1 : w6.cell? ⟨w.heap.size, 1, none⟩ = some (.int .i64 de) := hR6'.cell 1
    have r2 : w6.cell? ⟨w.heap.size, 2, none⟩ = some (.int .i64 cr) := hR6'.cell 2
    have r3 : w6.cell? ⟨w.heap.size, 3, none⟩ = some (.int .i64 (x)) := hR6'.cell 3
    go_wp2
    refine bodyPost_ret (v := .tuple #[.slice A1 n1 c1, .agg #[.int .i64 (22000 + mo), .int .i64 de, .int .i64 cr, .int .i64 x]]) (by simp [results, Try.results32, go_sem, r0, r1, r2, r3]) rfl ?_
    refine ⟨_, _, _, ⟨22000 + mo, de, cr, x⟩, rfl, ⟨xs, (HRy.out.keep fun h' hh => hg6.block h' (HRy.out.lt hh).2 (fun e => by injection e with e; have := (HRy.out.lt hh).1; omega)).more hb.size, HFE.out⟩, hn1, HFX.out, HBy.out.grown hg6 (Nat.le_of_lt hwy) (fun k hk => by injection hk with hk; omega)⟩
  · have hltw : w.heap.size < w1.heap.size := HB1.lt
    have hg1 := hS.lt
    have hgw : w.heap.size < g := by have := hg; simp at this; omega
    have hGw : w.heap.size < G := by omega
    have hcE := Lib.hid (Blk.aggq_past (cs := [.int .i64 (22000 + mo), .int .i64 de, .int .i64 cr, .int .i64 (1 + am)]) (HE0.nx hT (Nat.ne_of_gt hgG)) 0 [.int .i64 (22000 + mo), .int .i64 de, .int .i64 cr, .int .i64 (1 + am)] rfl)
    have HZ9 := Lib.hid (HB1.nx (hO.trans hT) (Nat.ne_of_lt hgw))
    have HR9 := Lib.hid (HRE.out.nx hT hS.lt)
    have HB9 := Lib.hid (hb.trans ((hO.trans hT).out (by have := hg; simp at this; omega)))
    have H1 : Hid (∀ v ∈ ([.int .i64 (22000 + mo), .int .i64 de, .int .i64 cr, .int .i64 (1 + am)] : List Value), v.oneCell' = true) := Lib.hid (by simp [Value.oneCell'])
    have HFX := Lib.hid (show (⟨22000 + mo, de, cr, 1 + am⟩ : Entry).fits from (show In64 (22000 + mo) ∧ In64 de ∧ In64 cr ∧ In64 (1 + am) from ⟨in64_of (by omega), in64_of (by omega), in64_of (by omega), in64_of (by omega)⟩))
    refine wp_region_past_tail 3 (by kernel_rfl) (by kernel_rfl) ?_
    simp only [List.take_succ_cons, List.take_zero, List.drop_succ_cons, List.drop_zero]
    repeat (first | (go_big_quiet_want; (first | (refine quiet_load_agg 56 _ rfl ⟨G, 0, none⟩ rfl [.int .i64 (22000 + mo), .int .i64 de, .int .i64 cr, .int .i64 (1 + am)] hcE.out _ Try.underlying56 rfl Entry.size ?_)); go_simp; go_big_quiet_on) | go_big_quiet_step (fail))
    refine wpQuiet_nil ?_
    rintro _ ⟨y, rfl⟩
    have HZy := Lib.hid (HZ9.out.below' y.2)
    have HRy := Lib.hid (HR9.out.past y.2)
    have HBy := Lib.hid (HB9.out.trans (y.2.mono HB9.out.size))
    have hwy : w.heap.size < y.1.heap.size := HZy.out.lt
    go_wp2_with (refine wpList_store_agg rfl 56 _ _ rfl (w.heap.size) 0 [.int .i64 (22000 + mo), .int .i64 de, .int .i64 cr, .int .i64 (1 + am)] rfl rfl 56 #[.int .i64 0, .int .i64 0, .int .i64 0, .int .i64 0] HZy.out Entry.size (by simp) H1.out ?_)
    intro w6 hR6 hg6 _
    have hR6' : Blk w6 (w.heap.size) 56 #[.int .i64 (22000 + mo), .int .i64 de, .int .i64 cr, .int .i64 (1 + am)] := hR6
    have r0 : w6.cell? ⟨w.heap.size, 0, none⟩ = some (.int .i64 (22000 + mo)) := hR6'.cell 0
    have r1 : w6.cell? ⟨w.heap.size, 1, none⟩ = some (.int .i64 de) := hR6'.cell 1
    have r2 : w6.cell? ⟨w.heap.size, 2, none⟩ = some (.int .i64 cr) := hR6'.cell 2
    have r3 : w6.cell? ⟨w.heap.size, 3, none⟩ = some (.int .i64 (1 + am)) := hR6'.cell 3
    go_wp2
    refine bodyPost_ret (v := .tuple #[.slice A1 n1 c1, .agg #[.int .i64 (22000 + mo), .int .i64 de, .int .i64 cr, .int .i64 (1 + am)]]) (by simp [results, Try.results32, go_sem, r0, r1, r2, r3]) rfl ?_
    refine ⟨_, _, _, ⟨22000 + mo, de, cr, 1 + am⟩, rfl, ⟨xs, (HRy.out.keep fun h' hh => hg6.block h' (HRy.out.lt hh).2 (fun e => by injection e with e; have := (HRy.out.lt hh).1; omega)).more hb.size, HFE.out⟩, hn1, HFX.out, HBy.out.grown hg6 (Nat.le_of_lt hwy) (fun k hk => by injection hk with hk; omega)⟩


end Go.Proofs.Ytoabhnobgdjgkaa
