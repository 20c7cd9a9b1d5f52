/- Draws of a life table and a rate, of an age of a life table. -/
import Derived.Test.YtlbllonpodckgaaGreatDoorDrawPt2
namespace Go.Proofs.YtlbllonpodckgaaGreatDoor
open Go.RowKit Go.BigFrame

set_option maxRecDepth 100000 in
set_option maxHeartbeats 4000000 in
theorem spec_l05Draw_any (K : Code) (hK : K.Ok) (g : Nat) (w0 : World) (w : World) (hT : Nx K g w0 w) :
    Calls Tryz.prog 76 #[.pointer (some ⟨g, 0, none⟩)] w fun e w' => ∃ (f : Int) (A' : Option Addr) (n' c' : Nat) (r : Int), e = .returned (.tuple #[.agg #[.int .i64 f, .slice A' n' c'], .int .i64 r]) ∧ IntsBy w0.heap.size w' A' n' c' 0 1000001 ∧ (1 ≤ n' ∧ n' ≤ 30) ∧ (-1 ≤ f ∧ f ≤ 101) ∧ (-1 ≤ r ∧ r ≤ 201) ∧ Nx K g w0 w' := by
  have HT0 := Lib.hid hT
  have hgw := hT.src.lt
  have hOw := (Nx.refl hT.src).alloc (.cells #[.int .i64 0, .slice none 0 0] 40)
  have HZ0 := Lib.hid (Blk.new w 40 #[.int .i64 0, .slice none 0 0])
  clear hT
  have hT := Nx.refl hOw.src
  have HSZ := Lib.hid (show w.heap.size + 1 = (w.alloc (.cells #[.int .i64 0, .slice none 0 0] 40)).heap.size by simp)
  have hneg : w.heap.size ≠ g := by omega
  go_enter Tryz.func76, Tryz.ntmps76
  go_wp2_with fail
  generalize w.alloc (.cells #[.int .i64 0, .slice none 0 0] 40) = Wa at hT hOw HZ0 HSZ ⊢
  go_wp2_with (first | ((go_at_call 113; refine (spec_l03Draw_any K hK g _ _ (by first | exact hT | exact hT.alloc _ | exact (hT.alloc _).alloc _ | exact hT.drew) ).mono ?_; rintro e w3 ⟨f, A1, n1, c1, rfl, hE, hn1, hf1, hT⟩); have hO := hT; have hT := Nx.refl hT.src) | ((go_at_call 136; refine (spec_l04DrawRate_any K hK g _ _ (by first | exact hT | exact hT.alloc _ | exact (hT.alloc _).alloc _ | exact hT.drew) ).mono ?_; rintro e w3 ⟨r, rfl, hr, hT⟩); have HZ := Lib.hid (HZ0.out.nx (hO.trans hT) hneg); have H1 : Hid (∀ v ∈ ([.int .i64 f, .slice A1 n1 c1] : List Value), v.oneCell' = true) := Lib.hid (by simp [Value.oneCell'])) | (refine wpList_store_agg rfl 40 _ _ rfl (w.heap.size) 0 [.int .i64 f, .slice A1 n1 c1] rfl rfl 40 #[.int .i64 0, .slice none 0 0] HZ.out Tab.size (by simp) H1.out ?_))
  intro w6 hR6 hg6 _
  have hR6' : Blk w6 (w.heap.size) 40 #[.int .i64 f, .slice A1 n1 c1] := hR6
  have r0 : w6.cell? ⟨w.heap.size, 0, none⟩ = some (.int .i64 f) := hR6'.cell 0
  have r1 : w6.cell? ⟨w.heap.size, 1, none⟩ = some (.slice A1 n1 c1) := hR6'.cell 1
  go_wp2
  refine bodyPost_ret (v := .tuple #[.agg #[.int .i64 f, .slice A1 n1 c1], .int .i64 r]) (by simp [results, Tryz.results76, go_sem, r0, r1]) rfl ?_
  have hNW := hOw.trans (hO.trans hT)
  refine ⟨f, A1, n1, c1, r, rfl, ?_, hn1, hf1, hr, HT0.out.trans (hNW.kept hgw (Nat.le_refl _) ((Below.refl _ _).grown hg6 (Nat.le_of_lt HZ.out.lt) (fun k hk => by injection hk with hk; omega)))⟩
  have hga : g < Wa.heap.size := by have := HSZ.out; omega
  obtain ⟨xs, hRx, hfx⟩ := hE.nx hT hga
  exact ⟨xs, (hRx.keep fun g' hg' => hg6.block g' (hRx.lt hg').2 (fun e => by injection e with e; have := (hRx.lt hg').1; have := HSZ.out; omega)).more (by have := HT0.out.size; have := HSZ.out; omega), hfx⟩

set_option maxRecDepth 100000 in
set_option maxHeartbeats 4000000 in
theorem spec_l03DrawAge_any (K : Code) (hK : K.Ok) (g : Nat) (w0 : World) (w : World) (hT : Nx K g w0 w) (f : Int) (A : Option Addr) (n c : Nat) (hf : -1000 ≤ f ∧ f ≤ 1000) (hn : 1 ≤ n ∧ n ≤ 1000) :
    Calls Tryz.prog 77 #[.pointer (some ⟨g, 0, none⟩), .agg #[.int .i64 f, .slice A n c]] w fun e w' => ∃ x : Int, e = .returned (.int .i64 x) ∧ (-2000 ≤ x ∧ x ≤ 4000) ∧ Nx K g w0 w' := by
  have HT0 := Lib.hid hT
  have hOw := (Nx.refl hT.src).alloc (.cells #[.int .i64 f, .slice A n c] 40)
  have HB0 := Lib.hid (Blk.new w 40 #[.int .i64 f, .slice A n c])
  have hneg : w.heap.size ≠ g := by have := hT.src.lt; omega
  clear hT
  have hT := Nx.refl hOw.src
  obtain ⟨f0, f1⟩ := hf
  obtain ⟨n0, n1⟩ := hn
  go_enter Tryz.func77, Tryz.ntmps77
  go_wp2_with fail
  generalize w.alloc (.cells #[.int .i64 f, .slice A n c] 40) = Wa at hT hOw HB0 ⊢
  have HS := Lib.hid (fun w' (h : Nx K g Wa w') => (show Nx K g Wa w' ∧ w'.cell? ⟨w.heap.size, 0, none⟩ = some (.int .i64 f) ∧ w'.cell? ⟨w.heap.size, 1, none⟩ = some (.slice A n c) from ⟨h, (HB0.out.nx h hneg).cell 0, (HB0.out.nx h hneg).cell 1⟩))
  go_wp2_with (go_at_call 74; refine (spec_l01Next_any K hK g _ _ _ (Nx.refl (Nx.src (by first | exact hT | exact hT.alloc _ | exact (hT.alloc _).alloc _ | exact hT.drew)))).mono ?_; rintro e w3 ⟨x, rfl, ⟨hx0, hx1⟩, hN⟩; have hT := Nx.trans (by first | exact hT | exact hT.alloc _ | exact (hT.alloc _).alloc _ | exact hT.drew) hN)
  · have HD := Lib.hid hT.drew
    have hw1 : IntKind.i64.wrap (f - 1) = f - 1 := IntWalk.i64_in _ (by omega)
    have hw2 : IntKind.i64.wrap (f + (n : Int)) = f + (n : Int) := IntWalk.i64_in _ (by omega)
    go_region_held3 (fun w' => Nx K g Wa w' ∧ w'.cell? ⟨w.heap.size, 0, none⟩ = some (.int .i64 f) ∧ w'.cell? ⟨w.heap.size, 1, none⟩ = some (.slice A n c)) (first | exact HS.out _ HP.out | exact HS.out _ (HP.out.alloc _) | exact HS.out _ HD.out) (first | (go_at_call 137; refine (l03End_draw f A n c _ ⟨f0, f1⟩ n1).mono ?_; rintro e w5 ⟨rfl, hb5⟩; have HP := Lib.hid (Nx.past (by first | exact HP.out | exact HD.out) hb5)) | (go_at_call 79; refine (spec_l01Pick_new K hK g _ _ _ _ (by first | exact HP.out) (by rfl) (by decide) (by decide) (by rfl)).mono ?_; rintro e w5 ⟨xp, rfl, hxp, hT5⟩; simp only [OneOf, Value.int.injEq, true_and, or_false] at hxp; have HP := Lib.hid hT5))
    go_wp2
    go_ret
    exact ⟨_, rfl, by omega, HT0.out.trans (hOw.trans HP.out)⟩
  · have HD := Lib.hid hT.drew
    go_region_held3 (fun w' => Nx K g Wa w' ∧ w'.cell? ⟨w.heap.size, 0, none⟩ = some (.int .i64 f) ∧ w'.cell? ⟨w.heap.size, 1, none⟩ = some (.slice A n c)) (first | exact HS.out _ HP.out | exact HS.out _ HD.out) (first | (go_at_call 74; refine (spec_l01Next_any K hK g Wa _ _ HD.out).mono ?_; rintro e w5 ⟨x5, rfl, ⟨hx50, hx51⟩, hT5⟩; have HP := Lib.hid hT5))
    go_wp2
    go_ret
    exact ⟨_, rfl, by first | omega | (rw [IntWalk.i64_in _ (by omega)]; omega), HT0.out.trans (hOw.trans HP.out)⟩
end Go.Proofs.YtlbllonpodckgaaGreatDoor
