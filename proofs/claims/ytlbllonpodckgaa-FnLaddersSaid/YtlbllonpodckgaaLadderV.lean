/- slices.Reverse over bonds. No condition but the length. -/
import Derived.Test.YtlbllonpodckgaaRowPut
import Derived.Test.YtlbllonpodckgaaPut
import Derived.Test.YtlbllonpodckgaaTail
import Derived.Test.YtlbllonpodckgaaStBond
namespace Go.Proofs.Ytlbllonpodckgaa
open Go.RowKit Go.BigFrame

theorem Res.put3 {w : World} {B n cap : Nat} {t : TypeId} {g : Nat} {rows : List (List Value)} (h : Res B w t 3 (some ⟨g, 0, none⟩) n cap rows) {k : Nat} (hk : k < n) (a b c : Value) :
    Res B (((w.setCell ⟨g, k * 3, none⟩ a).setCell ⟨g, k * 3 + 1, none⟩ b).setCell ⟨g, k * 3 + 2, none⟩ c) t 3 (some ⟨g, 0, none⟩) n cap (rows.set k [a, b, c]) := by
  obtain ⟨r, hr⟩ := get_of_lt (xs := rows) (k := k) (by have := h.len; omega)
  have hkl : k < rows.length := by have := h.len; omega
  have hrl := h.all r (List.mem_of_getElem? hr)
  match r, hrl with
  | [x, y, z], _ =>
    obtain ⟨g1, e1, _, _, _, _, p1⟩ := h.put (k := k) (j := 0) hr (by omega)
    injection e1 with e1; injection e1 with e1; subst e1
    have h1 := p1 a
    rw [Nat.add_zero] at h1
    obtain ⟨g2, e2, _, _, _, _, p2⟩ := h1.put (k := k) (j := 1) (r := [a, y, z]) (by simp [hkl]) (by omega)
    injection e2 with e2; injection e2 with e2; subst e2
    have h2 := p2 b
    obtain ⟨g3, e3, _, _, _, _, p3⟩ := h2.put (k := k) (j := 2) (r := [a, b, z]) (by simp [hkl]) (by omega)
    injection e3 with e3; injection e3 with e3; subst e3
    have h3 := p3 c
    simpa using h3
theorem Res.at3 {w : World} {B n cap : Nat} {t : TypeId} {g : Nat} {rows : List (List Value)} (h : Res B w t 3 (some ⟨g, 0, none⟩) n cap rows) {k : Nat} {a b c : Value} (hr : rows[k]? = some [a, b, c]) :
    (w.cell? ⟨g, k * 3, none⟩ = some a ∧ w.cell? ⟨g, k * 3 + 1, none⟩ = some b ∧ w.cell? ⟨g, k * 3 + 2, none⟩ = some c) ∧
      (w.frozen? ⟨g, k * 3, none⟩ = false ∧ w.frozen? ⟨g, k * 3 + 1, none⟩ = false ∧ w.frozen? ⟨g, k * 3 + 2, none⟩ = false) := by
  obtain ⟨g1, e1, _, _, c1, f1, _⟩ := h.put (k := k) (j := 0) hr (by omega)
  obtain ⟨g2, e2, _, _, c2, f2, _⟩ := h.put (k := k) (j := 1) hr (by omega)
  obtain ⟨g3, e3, _, _, c3, f3, _⟩ := h.put (k := k) (j := 2) hr (by omega)
  injection e1 with e1; injection e1 with e1; subst e1
  injection e2 with e2; injection e2 with e2; subst e2
  injection e3 with e3; injection e3 with e3; subst e3
  exact ⟨⟨c1 _ rfl, c2 _ rfl, c3 _ rfl⟩, f1, f2, f3⟩
theorem bondRows_getD {xs : List Bond} {k : Nat} {x : Bond} (h : xs[k]? = some x) : (bondRows xs).getD k [] = [.int .i64 x.nominal, .int .i64 x.coupon, .int .i64 x.years] := by
  rw [List.getD_eq_getElem?_getD, bondRows_get h]; rfl
theorem bondRows_reverse (xs : List Bond) : bondRows xs.reverse = (bondRows xs).reverse := by simp [bondRows]

set_option maxRecDepth 100000 in
set_option maxHeartbeats 4000000 in
theorem reverse_any {B : Nat} {A : Option Addr} {n cap : Nat} (xs : List Bond) (w : World) (h : Res B w 66 3 A n cap (bondRows xs)) (hn : n ≤ 1000) (hB : B ≤ w.heap.size) :
    Calls Try.prog 42 #[.slice A n cap] w fun e w' => e = .returned (.tuple #[]) ∧ Res B w' 66 3 A n cap (bondRows xs.reverse) ∧ Below B w w' ∧ ∀ k, k < w.heap.size → A ≠ some ⟨k, 0, none⟩ → w'.heap[k]? = w.heap[k]? := by
  have HR := Lib.hid h; clear h
  have hlx : xs.length = n := by have := HR.out.len; rwa [bondRows_length] at this
  have HL := Lib.hid hlx
  have HLb := Lib.hid (show (bondRows xs).length = n by rw [bondRows_length, hlx]); clear hlx
  have HBw := Lib.hid hB; clear hB
  go_enter Try.func42, Try.ntmps42
  go_wp2
  go_loopw [2, 3] (fun i j wr => ∃ t : Nat, 2 * t ≤ n ∧ i = .int .i64 t ∧ j = .int .i64 ((n : Int) - 1 - (t : Int)) ∧ Hid (Res B wr 66 3 A n cap (rvL (bondRows xs) t)) ∧ Hid (Below B w wr) ∧ Hid (∀ k, k < w.heap.size → A ≠ some ⟨k, 0, none⟩ → wr.heap[k]? = w.heap[k]?)) (fun i j _ => (intOf j - intOf i + 1).toNat)
  case atStart => exact ⟨0, by omega, rfl, by go_num, Lib.hid (by rw [rvL_zero]; exact HR.out), Lib.hid (Below.refl _ _), Lib.hid (fun _ _ _ => rfl)⟩
  case round =>
    obtain ⟨t, ht, rfl, rfl, HT, HB, HK⟩ := hrel
    by_cases hlt : 2 * t + 1 < n
    · obtain ⟨q, hq⟩ : ∃ q, q + t + 1 = n := ⟨n - 1 - t, by omega⟩
      obtain ⟨x, hx⟩ := get_of_lt (xs := xs) (k := t) (by rw [HL.out]; omega)
      obtain ⟨y, hy⟩ := get_of_lt (xs := xs) (k := q) (by rw [HL.out]; omega)
      have hqn : (bondRows xs).length - 1 - t = q := by rw [HLb.out]; omega
      have hrx := rvL_get (xs := bondRows xs) (t := t) (k := t) (by rw [HLb.out]; omega) (Nat.le_refl _) (by rw [HLb.out]; omega)
      have hry := rvL_get (xs := bondRows xs) (t := t) (k := q) (by rw [HLb.out]; omega) (by omega) (by rw [HLb.out]; omega)
      have hst := rvL_step (xs := bondRows xs) (t := t) (by rw [hqn]; omega)
      rw [hqn, bondRows_getD hx, bondRows_getD hy] at hst
      rw [bondRows_getD hx] at hrx
      rw [bondRows_getD hy] at hry
      have HST := Lib.hid hst; clear hst hqn
      rw [show (n : Int) - 1 - (t : Int) = (q : Int) by omega]
      have hA : ∃ g, A = some ⟨g, 0, none⟩ := by
        obtain ⟨g, hg, _⟩ := HT.out.put (k := t) (j := 0) hrx (by omega)
        exact ⟨g, hg⟩
      obtain ⟨g, rfl⟩ := hA
      obtain ⟨⟨x0, x1, x2⟩, fx0, fx1, fx2⟩ := HT.out.at3 hrx
      obtain ⟨⟨y0, y1, y2⟩, fy0, fy1, fy2⟩ := HT.out.at3 hry
      have HGB := Lib.hid (HT.out.lt rfl)
      clear hrx hry hx hy
      have htq : t < q := by omega
      have htq' : (t : Int) < (q : Int) := by omega
      have hqn' : (q : Int) < (n : Int) := by omega
      have htn' : (t : Int) < (n : Int) := by omega
      go_wp2
      go_region
      all_goals
        have hr9 := (HT.out.put3 (k := t) (by omega) (.int .i64 y.nominal) (.int .i64 y.coupon) (.int .i64 y.years)).put3 (k := q) (by omega) (.int .i64 x.nominal) (.int .i64 x.coupon) (.int .i64 x.years)
        have hb9 := (((((HB.out.setCell (p := ⟨g, t * 3, none⟩) HGB.out.1 (.int .i64 y.nominal)).setCell (p := ⟨g, t * 3 + 1, none⟩) HGB.out.1 (.int .i64 y.coupon)).setCell (p := ⟨g, t * 3 + 2, none⟩) HGB.out.1 (.int .i64 y.years)).setCell (p := ⟨g, q * 3, none⟩) HGB.out.1 (.int .i64 x.nominal)).setCell (p := ⟨g, q * 3 + 1, none⟩) HGB.out.1 (.int .i64 x.coupon)).setCell (p := ⟨g, q * 3 + 2, none⟩) HGB.out.1 (.int .i64 x.years)
        rw [HST.out] at hr9
        have HR9 := Lib.hid hr9; clear hr9
        have HB9 := Lib.hid hb9; clear hb9
        have HK9 := Lib.hid (show ∀ k, k < w.heap.size → some (⟨g, 0, none⟩ : Addr) ≠ some ⟨k, 0, none⟩ → ((((((wr.setCell ⟨g, t * 3, none⟩ (.int .i64 y.nominal)).setCell ⟨g, t * 3 + 1, none⟩ (.int .i64 y.coupon)).setCell ⟨g, t * 3 + 2, none⟩ (.int .i64 y.years)).setCell ⟨g, q * 3, none⟩ (.int .i64 x.nominal)).setCell ⟨g, q * 3 + 1, none⟩ (.int .i64 x.coupon)).setCell ⟨g, q * 3 + 2, none⟩ (.int .i64 x.years)).heap[k]? = w.heap[k]? from fun k hk hne => by
          have hgk : k ≠ g := fun e => hne (by rw [e])
          refine Eq.trans ?_ (HK.out k hk hne)
          repeat (refine (Below.heap_setCell _ _ _ _ (by exact hgk)).trans ?_)
          rfl)
        go_wp2
        go_roundw
        case rel => exact ⟨t + 1, by omega, by go_num, by congr 1; omega, Lib.hid HR9.out.drew, Lib.hid HB9.out.drew, HK9⟩
        case measure => simp [intOf]; omega
    · rw [show rvL (bondRows xs) t = bondRows xs.reverse by rw [bondRows_reverse]; exact rvL_end (by rw [HLb.out]; omega) (by rw [HLb.out]; omega)] at HT
      have hge : (n : Int) - 1 - (t : Int) ≤ (t : Int) := by omega
      go_wp2
      go_end0
      exact ⟨rfl, HT.out, HB.out, HK.out⟩
end Go.Proofs.Ytlbllonpodckgaa
