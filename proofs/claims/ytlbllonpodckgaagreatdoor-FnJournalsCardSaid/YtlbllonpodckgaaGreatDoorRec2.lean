/- A ledger is recovered from its journal: the reference. -/
import Derived.Test.YtlbllonpodckgaaGreatDoorRec1
import Derived.Test.YtlbllonpodckgaaGreatDoorSplit
import Derived.Test.YtlbllonpodckgaaGreatDoorRead5
import Derived.Test.YtlbllonpodckgaaGreatDoorRead6
import Derived.Test.YtlbllonpodckgaaGreatDoorLedg
import Derived.Deep.DeepCutAuto
namespace Go.Proofs.YtlbllonpodckgaaGreatDoor
open Go.RowKit Go.BigFrame

theorem lateB_yes {xs : List Entry} {e x : Entry} (hx : xs[xs.length - 1]? = some x) (h : e.month < x.month) : lateB xs e = true := by
  have := (List.getElem?_eq_some_iff.1 hx).1
  unfold lateB
  rw [monthAt_of hx]
  simp; omega
theorem lateB_no {xs : List Entry} {e x : Entry} (hx : xs[xs.length - 1]? = some x) (h : ¬ e.month < x.month) : lateB xs e = false := by
  unfold lateB
  rw [monthAt_of hx]
  simp; omega
theorem lateB_nil (e : Entry) : lateB [] e = false := by simp [lateB]
theorem words_at {w : World} {B n cap : Nat} {A : Option Addr} {ws : List (List UInt8)} (h : Res B w 9 1 A n cap (strRows ws)) (hn : 0 < n) : ∃ g, A = some ⟨g, 0, none⟩ ∧ B ≤ g ∧ g < w.heap.size ∧ ∀ k p, ws[k]? = some p → w.cell? ⟨g, k, none⟩ = some (.string (S p)) := by
  obtain ⟨g, cs, rfl, hB, hblk, _, hcs⟩ := h.at_ hn
  have hl : ws.length = n := by have := h.len; simpa [strRows] using this
  refine ⟨g, rfl, hB, hblk.lt, fun k p hp => ?_⟩
  have hk := (List.getElem?_eq_some_iff.1 hp).1
  have hfl : (strRows ws).flatten = ws.map fun p => Value.string (S p) := by
    unfold strRows
    clear h hcs hl hp hk hblk
    induction ws with
    | nil => rfl
    | cons x r ih => simp [ih]
  rw [hblk.cell, hcs k (by omega), hfl, List.getElem?_map, hp]; rfl

set_option maxHeartbeats 16000000 in
set_option maxRecDepth 100000 in
theorem spec_RecoverLedger_any (s : ByteArray) (hs : s.size ≤ 1048576) (w : World) :
    Calls Tryz.prog 8 #[.string s] w fun e w' => RecE s w w' e := by
  have HLL := Lib.hid (show s.data.toList.length = s.size from rfl)
  by_cases hbig : 12000 < s.size
  · have hbi : (12000 : Int) < (s.size : Int) := by omega
    have Q := Lib.hid (show recP s.data.toList = ([], 3) by unfold recP; rw [if_pos (by rw [HLL.out]; exact hbig)])
    go_enter Tryz.func8, Tryz.ntmps8
    go_wp2
    go_ret2
    exact ⟨none, 0, 0, by rw [Q.out]; rfl, by rw [Q.out]; exact Res.nil_, Below.refl _ _⟩
  have hbi : ¬ (12000 : Int) < (s.size : Int) := by omega
  have Q := Lib.hid (show recP s.data.toList = (recL (cutL 10 s.data.toList).dropLast [] 0, 0) by unfold recP; rw [if_neg (by rw [HLL.out]; exact hbig)])
  obtain ⟨i0, hi0, hj0, hj1, hj2⟩ := Entry.parts
  have HI := Lib.hid (And.intro hi0 (And.intro hj0 (And.intro hj1 hj2))); clear hi0 hj0 hj1 hj2
  go_enter Tryz.func8, Tryz.ntmps8
  go_wp2_with fail
  refine (spec_l01Split_any s 10 (by omega) w).mono ?_
  rintro e w1 ⟨A1, n1, cap1, rfl, hn1, hR, hb⟩
  have HWL := Lib.hid (cutL_le 10 s.data.toList)
  have HNE := Lib.hid (cutL_ne 10 s.data.toList)
  have HCL := Lib.hid (show (cutL 10 s.data.toList).length ≤ 12001 by rw [cutL_len]; have := List.count_le_length (a := (10 : UInt8)) (l := s.data.toList); have := HLL.out; omega)
  generalize cutL 10 s.data.toList = ws at HWL HNE HCL Q hn1 hR
  obtain ⟨n, hn⟩ : ∃ n, ws.length = n + 1 := ⟨ws.length - 1, by have := List.length_pos_iff.2 HNE.out; omega⟩
  have hn2 : n ≤ 12000 := by have := HCL.out; omega
  have HLN := Lib.hid (show ws.dropLast.length = n by rw [List.length_dropLast, hn]; rfl)
  obtain rfl : n1 = n + 1 := by omega
  obtain ⟨gw, rfl, hgw0, hgw1, hcw⟩ := words_at hR (by omega)
  have HWC := Lib.hid (fun k x (h : ws.dropLast[k]? = some x) => hcw k x (dropLast_get h))
  have HLE := Lib.hid (fun k (x : List UInt8) (h : ws.dropLast[k]? = some x) => (show x.length ≤ 12000 by
    have h1 := HWL.out x (List.mem_of_getElem? (dropLast_get h))
    have h2 := HLL.out
    omega))
  have HB0 := Lib.hid hb
  clear hb hR hcw hn hn1 HWL HNE HCL
  generalize ws.dropLast = ls at Q HLN HWC HLE
  have HR1 := Lib.hid (show Res w1.heap.size (w1.alloc (.cells #[] 78)) 78 4 (some ⟨w1.heap.size, 0, none⟩) 0 0 (entryRows []) from Res.zero w1 w1.heap.size 78 4 (Nat.le_refl _))
  have hw1 : w.heap.size ≤ w1.heap.size := HB0.out.size
  have hwW : w1.heap.size ≤ (w1.alloc (.cells #[] 78)).heap.size := by simp
  have HB1 := Lib.hid (HB0.out.alloc HB0.out.size (.cells #[] 78))
  have HWC1 := Lib.hid (fun k (x : List UInt8) (h : ls[k]? = some x) => (((Below.refl w1.heap.size w1).alloc (Nat.le_refl _) (.cells #[] 78)).cell (show gw < w1.heap.size from hgw1)).trans (HWC.out k x h))
  clear HWC HB0
  go_wp2
  generalize w1.alloc (.cells #[] 78) = W1 at HB1 HR1 HWC1 hwW ⊢
  go_loopw [5, 6, 7] (fun o c i wr => ∃ (k q cap : Nat) (A : Option Addr) (out : List Entry) (c0 : Int), k ≤ n ∧ i = .int .i64 k ∧ o = .slice A q cap ∧ c = .int .i64 c0 ∧ out.length = q ∧ q ≤ 150 ∧ (0 ≤ c0 ∧ c0 < 99991) ∧ Hid (Res w1.heap.size wr 78 4 A q cap (entryRows out)) ∧ Hid (ledgerB out = true) ∧ Hid (recL ls [] 0 = recL (ls.drop k) out c0) ∧ Hid (Below w1.heap.size W1 wr)) (fun _ _ i _ => n - (intOf i).toNat)
  case atStart => exact ⟨0, 0, 0, _, [], 0, by omega, rfl, rfl, rfl, rfl, by omega, by omega, HR1, Lib.hid ledger_nil, Lib.hid rfl, Lib.hid (Below.refl _ _)⟩
  case round =>
    obtain ⟨k, q, cap, A, out, c0, hk, rfl, rfl, rfl, hq, hq2, ⟨hc0, hc1⟩, HR, HG, HC, HB⟩ := hrel
    clear HR1
    by_cases hlt : ¬ k < n
    · have hkn : k = n := by omega
      subst hkn
      have HF := Lib.hid (HC.out.trans (recL_end (by rw [HLN.out]; exact Nat.le_refl _)))
      go_wp2
      go_ret2
      exact ⟨A, q, cap, by rw [Q.out]; rfl, by rw [Q.out]; show Res _ _ _ _ _ _ _ (entryRows (recL ls [] 0)); rw [HF.out]; exact HR.out.more hw1, HB1.out.trans (HB.out.mono hw1)⟩
    have hki : (k : Int) + 1 < (n : Int) + 1 := by omega
    by_cases hfull : ¬ q < 150
    · have hqi : ¬ (q : Int) < 150 := by omega
      have HF := Lib.hid (HC.out.trans (recL_full (by omega)))
      go_wp2
      go_ret2
      exact ⟨A, q, cap, by rw [Q.out]; rfl, by rw [Q.out]; show Res _ _ _ _ _ _ _ (entryRows (recL ls [] 0)); rw [HF.out]; exact HR.out.more hw1, HB1.out.trans (HB.out.mono hw1)⟩
    have hqi : (q : Int) < 150 := by omega
    obtain ⟨l, hl⟩ := get_of_lt (xs := ls) (k := k) (by rw [HLN.out]; omega)
    have cl : wr.cell? ⟨gw, k, none⟩ = some (.string (S l)) := (HB.out.cell (show gw < w1.heap.size from hgw1)).trans (HWC1.out k l hl)
    obtain ⟨sl, hsl⟩ : ∃ sl, S l = sl := ⟨_, rfl⟩
    rw [hsl] at cl
    have HSL := Lib.hid hsl
    have Hl := Lib.hid hl
    have hlz : sl.size ≤ 100000 := by have := HLE.out k l hl; rw [← hsl, S_size]; omega
    have HBW := Lib.hid (HB1.out.trans (HB.out.mono hw1))
    have HSTOP := Lib.hid (fun (h : ∀ e, ¬ NextE out c0 l e) => HC.out.trans (recL_stop Hl.out h))
    have HFIN := Lib.hid (fun (h : ∀ e, ¬ NextE out c0 l e) (wx : World) (hb : Below wr.heap.size wr wx) => (show RecE s w wx (.returned (.tuple #[.slice A q cap, .int .i64 0])) from
      ⟨A, q, cap, by rw [Q.out], by rw [Q.out]; show Res _ _ _ _ _ _ _ (entryRows (recL ls [] 0)); rw [HSTOP.out h]; exact (HR.out.past hb).more hw1, HBW.out.trans (hb.mono HBW.out.size)⟩))
    clear hsl hl
    go_wp2_with fail
    refine (spec_l01Split_any sl 32 hlz wr).mono ?_
    rintro e w2 ⟨A2, m2, cap2, rfl, hm2, hR2, hb2⟩
    have HLI := Lib.hid (fun y (h : LineIs sl y) => line_is h)
    have HLW := Lib.hid (cutL_le 32 sl.data.toList)
    have HLZ := Lib.hid (show sl.data.toList.length ≤ 100000 from hlz)
    generalize cutL 32 sl.data.toList = vs at HLI HLW hm2 hR2
    have HBa := Lib.hid hb2; clear hb2
    by_cases h5 : vs.length = 5
    rotate_left
    · have h5i : ¬ (m2 : Int) = 5 := by omega
      have HNO := Lib.hid (show ∀ e, ¬ NextE out c0 l e from fun e he => by
        obtain ⟨c', hc'⟩ := HLI.out e (by rw [← HSL.out]; exact nextE_line he)
        rw [hc'] at h5
        exact h5 rfl)
      clear hR2 hm2 h5
      go_wp2
      go_ret2
      exact HFIN.out HNO.out _ HBa.out
    have hm5 : m2 = 5 := by omega
    subst hm5
    obtain ⟨a, b, c, d, f5, rfl⟩ : ∃ a b c d f5, vs = [a, b, c, d, f5] := by
      match vs, h5 with
      | [a, b, c, d, f5], _ => exact ⟨a, b, c, d, f5, rfl⟩
    obtain ⟨gv, rfl, hgv0, hgv1, hcv⟩ := words_at hR2 (by omega)
    obtain ⟨sb, hsb⟩ : ∃ sb, S b = sb := ⟨_, rfl⟩
    obtain ⟨sc, hsc⟩ : ∃ sc, S c = sc := ⟨_, rfl⟩
    have HSB := Lib.hid hsb
    have HSC2 := Lib.hid hsc
    have q0 : w2.cell? ⟨gv, 0, none⟩ = some (.string (S a)) := hcv 0 a rfl
    have q1 : w2.cell? ⟨gv, 1, none⟩ = some (.string sb) := by rw [← hsb]; exact hcv 1 b rfl
    have q2 : w2.cell? ⟨gv, 2, none⟩ = some (.string sc) := by rw [← hsc]; exact hcv 2 c rfl
    have q3 : w2.cell? ⟨gv, 3, none⟩ = some (.string (S d)) := hcv 3 d rfl
    clear hsb hsc hcv h5
    have hd := Lib.hid (show (S d).size ≤ 100000 by
      have h1 := HLW.out d (by simp)
      have h2 := HLZ.out
      rw [S_size]; omega)
    go_wp2_with fail
    refine (spec_ReadMonth_any (S a) _).mono ?_
    rintro e w3 ⟨n1, b1, rfl, i1, p1, hb⟩
    have HBb := Lib.hid (HBa.out.trans (hb.mono HBa.out.size))
    have t1 := (hb.cell (block_lt_of_cell q1)).trans q1
    have t2 := (hb.cell (block_lt_of_cell q2)).trans q2
    have t3 := (hb.cell (block_lt_of_cell q3)).trans q3
    have HP1 := Lib.hid (And.intro i1 p1)
    clear hb q0 q1 q2 q3 i1 p1
    go_wp2_with fail
    refine (spec_ReadMoney_any (S d) hd.out _).mono ?_
    rintro e w4 ⟨n2, b2, rfl, i2, p2, hb⟩
    have HBc := Lib.hid (HBb.out.trans (hb.mono HBb.out.size))
    have HQ1 := Lib.hid ((hb.cell (block_lt_of_cell t1)).trans t1)
    have HQ2 := Lib.hid ((hb.cell (block_lt_of_cell t2)).trans t2)
    have HP2 := Lib.hid (And.intro i2 p2)
    clear hb t1 t2 t3 i2 p2
    have HS := Lib.hid (show ∀ w', Below w4.heap.size w4 w' → Below w4.heap.size w4 w' ∧ w'.cell? ⟨gv, 1, none⟩ = some (.string sb) ∧ w'.cell? ⟨gv, 2, none⟩ = some (.string sc) from fun w' q => ⟨q, (q.cell (block_lt_of_cell HQ1.out)).trans HQ1.out, (q.cell (block_lt_of_cell HQ2.out)).trans HQ2.out⟩)
    have HDR := Lib.hid ((Below.refl w4.heap.size w4).drew)
    have HP := Lib.hid (fun w' (q : Below w4.heap.size w4 w') (o : Obj) => q.alloc q.size o)
    have HSC := Lib.hid (fun g (hg : w4.heap.size ≤ g) w' (q : Below w4.heap.size w4 w') => (show Below w4.heap.size w4 ((((w'.setCell ⟨g, 0, none⟩ (.int .i64 n1)).setCell ⟨g, 1, none⟩ (.int .i64 (accP sb))).setCell ⟨g, 2, none⟩ (.int .i64 (accP sc))).setCell ⟨g, 3, none⟩ (.int .i64 n2)) from ((((q.setCell (p := ⟨g, 0, none⟩) hg (.int .i64 n1)).setCell (p := ⟨g, 1, none⟩) hg (.int .i64 (accP sb))).setCell (p := ⟨g, 2, none⟩) hg (.int .i64 (accP sc))).setCell (p := ⟨g, 3, none⟩) hg (.int .i64 n2))))
    have HC1 := Lib.hid (fun X => spec_l22Number_any sb X)
    have HC2 := Lib.hid (fun X => spec_l22Number_any sc X)
    go_wp2
    go_cut [13] (fun p wx => ∃ G : Nat, p = .pointer (some ⟨G, 0, none⟩) ∧ w4.heap.size ≤ G ∧ Hid (Blk wx G 78 #[.int .i64 n1, .int .i64 (accP sb), .int .i64 (accP sc), .int .i64 n2]) ∧ Hid (Below w4.heap.size w4 wx))
    case first =>
     go_region_held3 (fun w' => Below w4.heap.size w4 w' ∧ w'.cell? ⟨gv, 1, none⟩ = some (.string sb) ∧ w'.cell? ⟨gv, 2, none⟩ = some (.string sc)) (first | exact HS.out _ (HSC.out _ (Nat.le_refl _) _ hcc2) | exact HS.out _ (HSC.out _ hcc1.size _ hcc2) | exact HS.out _ hcc2 | exact HS.out _ (HP.out _ hcc2 _) | exact HS.out _ hcc1 | exact HS.out _ (HP.out _ hcc1 _) | exact HS.out _ HDR.out | exact HS.out _ (HP.out _ HDR.out _)) (first | (go_at_call 58; with_reducible refine Calls.mono (HC1.out _) ?_; rintro e w5 ⟨rfl, hb5⟩; have hcc1 : Below w4.heap.size w4 w5 := (by first | exact HDR.out.trans (hb5.mono HDR.out.size) | exact (HP.out _ HDR.out _).trans (hb5.mono (HP.out _ HDR.out _).size)); (first | (have HZ1 := Lib.hid (Blk.below' (Blk.new w4 78 #[.int .i64 0, .int .i64 0, .int .i64 0, .int .i64 0]).drew hb5)) | skip)) | (go_at_call 58; with_reducible refine Calls.mono (HC2.out _) ?_; rintro e w6 ⟨rfl, hb6⟩; have hcc2 : Below w4.heap.size w4 w6 := (by first | exact hcc1.trans (hb6.mono hcc1.size) | exact (HP.out _ hcc1 _).trans (hb6.mono (HP.out _ hcc1 _).size)); (first | (have HZ2 := Lib.hid (HZ1.out.below' hb6)) | (have HZ2 := Lib.hid (Blk.below' (Blk.new w5 78 #[.int .i64 0, .int .i64 0, .int .i64 0, .int .i64 0]) hb6)) | skip); (first | (have e0 := HZ2.out.cell 0; have e1 := HZ2.out.cell 1; have e2 := HZ2.out.cell 2; have e3 := HZ2.out.cell 3; have z0 := HZ2.out.frozen 0; have z1 := HZ2.out.frozen 1; have z2 := HZ2.out.frozen 2; have z3 := HZ2.out.frozen 3) | skip)))
     all_goals go_wp2_with fail
     all_goals go_meet
     all_goals first | exact ⟨_, rfl, Nat.le_refl _, Lib.hid (by simpa using ((((HZ2.out.set_ 0 (.int .i64 n1)).set_ 1 (.int .i64 (accP sb))).set_ 2 (.int .i64 (accP sc))).set_ 3 (.int .i64 n2))), Lib.hid (HSC.out _ (Nat.le_refl _) _ hcc2)⟩ | exact ⟨_, rfl, hcc1.size, Lib.hid (by simpa using ((((HZ2.out.set_ 0 (.int .i64 n1)).set_ 1 (.int .i64 (accP sb))).set_ 2 (.int .i64 (accP sc))).set_ 3 (.int .i64 n2))), Lib.hid (HSC.out _ hcc1.size _ hcc2)⟩ | exact ⟨_, rfl, hcc2.size, Lib.hid (Blk.new w6 _ _), Lib.hid (HP.out _ hcc2 _)⟩
    obtain ⟨G, rfl, hGw, HK5, HB5⟩ := hcut
    clear HS HDR HP HC1 HC2 HSC
    have HBc5 := Lib.hid (HBc.out.trans (HB5.out.mono HBc.out.size))
    obtain ⟨x, hx⟩ : ∃ x : Entry, x = ⟨n1, accP sb, accP sc, n2⟩ := ⟨_, rfl⟩
    have HX := Lib.hid hx
    have HXF := Lib.hid (show x.fits from by
      have h1 := accP_in sb
      have h2 := accP_in sc
      rw [hx]
      exact ⟨HP1.out.1, show In64 (accP sb) by unfold In64; omega, show In64 (accP sc) by unfold In64; omega, HP2.out.1⟩)
    have HXL := Lib.hid (fun y (hn : NextE out c0 l y) => (show x = y ∧ b1 = true ∧ b2 = true from by
      have hy : LineIs sl y := by rw [← HSL.out]; exact nextE_line hn
      have ho := entry_ok hy.1
      obtain ⟨c', hc'⟩ := HLI.out y hy
      simp only [List.cons.injEq] at hc'
      obtain ⟨e1, e2, e3, e4, _⟩ := hc'
      obtain ⟨m1, m2⟩ := HP1.out.2 y.month ⟨ho.m, by rw [e1]⟩
      obtain ⟨m3, m4⟩ := HP2.out.2 y.amount ⟨by have := ho.a; omega, by rw [e4]⟩
      have hxy : x = y := by
        rw [hx, m1, m3, ← HSB.out, ← HSC2.out, e2, e3, accP_name ho.d, accP_name ho.k]
      exact ⟨hxy, m2, m4⟩))
    have HCE := Lib.hid (fun X => show Calls Tryz.prog 59 #[.agg #[.int .i64 n1, .int .i64 (accP sb), .int .i64 (accP sc), .int .i64 n2]] X fun e w' => e = .returned (.bool (entryB x)) ∧ Below X.heap.size X w' from by
      rw [hx]; exact spec_l22Entry_any ⟨n1, accP sb, accP sc, n2⟩ X)
    have HROW := Lib.hid (show #[.int .i64 n1, .int .i64 (accP sb), .int .i64 (accP sc), .int .i64 n2] = x.row.toArray by rw [hx]; rfl)
    have hxm : x.month = n1 := by rw [hx]
    have HXM := Lib.hid hxm
    clear hx hxm HLI HLW HLZ HSB HSC2 HP1 HP2 hd HQ1 HQ2 HBa HBb HBc
    have HS4 := Lib.hid (show ∀ w', Blk w' G 78 #[.int .i64 n1, .int .i64 (accP sb), .int .i64 (accP sc), .int .i64 n2] → w'.cell? ⟨G, 0, none⟩ = some (.int .i64 n1) ∧ w'.cell? ⟨G, 1, none⟩ = some (.int .i64 (accP sb)) ∧ w'.cell? ⟨G, 2, none⟩ = some (.int .i64 (accP sc)) ∧ w'.cell? ⟨G, 3, none⟩ = some (.int .i64 n2) from fun w' h => ⟨h.cell 0, h.cell 1, h.cell 2, h.cell 3⟩)
    have HB5d := Lib.hid (HBc5.out.drew)
    cases b1
    · have HNO := Lib.hid (show ∀ e, ¬ NextE out c0 l e from fun e he => by have := (HXL.out e he).2.1; cases this)
      have HBz := HB5d
      go_wp2_with fail
      refine wp_region_held_drew (S := fun _ => True) (by kernel_rfl) (trivial) (fun hHeld => ?_)
      refine wpAnyH_takeN 66 (i := 0) (oi := _) (v := .bool false) rfl (by kernel_rfl) (by kernel_rfl) (by kernel_rfl) (fun _ _ _ h => h) (Or.inl ⟨by kernel_rfl, ?_⟩) hHeld (by rfl) ?_
      · intro u hSu
        go_simp
        all_goals first | omega | (intro hh; omega) | exact IntWalk.i64_in _ (by omega)
      simp only [List.setIfInBounds_toArray, List.set_cons_succ, List.set_cons_zero]
      refine wpAnyH_takeN 67 (i := 1) (oi := _) (v := .bool true) rfl (by kernel_rfl) (by kernel_rfl) (by kernel_rfl) (fun _ _ _ h => h) (Or.inl ⟨by kernel_rfl, ?_⟩) hHeld (by rfl) ?_
      · intro u hSu
        go_simp
        all_goals first | omega | (intro hh; omega) | exact IntWalk.i64_in _ (by omega)
      simp only [List.setIfInBounds_toArray, List.set_cons_succ, List.set_cons_zero]
      refine wpAnyH_takeN 68 (i := 2) (oi := _) (v := .bool true) rfl (by kernel_rfl) (by kernel_rfl) (by kernel_rfl) (fun _ _ _ h => h) (Or.inl ⟨by kernel_rfl, ?_⟩) hHeld (by rfl) ?_
      · intro u hSu
        go_simp
        all_goals first | omega | (intro hh; omega) | exact IntWalk.i64_in _ (by omega)
      simp only [List.setIfInBounds_toArray, List.set_cons_succ, List.set_cons_zero]
      refine wpAnyH_takeN 69 (i := 3) (oi := _) (v := undef) rfl (by kernel_rfl) (by kernel_rfl) (by kernel_rfl) (fun _ _ _ h => h) (Or.inr ⟨by kernel_rfl, rfl⟩) hHeld (by rfl) ?_
      simp only [List.setIfInBounds_toArray, List.set_cons_succ, List.set_cons_zero]
      refine wpAnyH_takeN 70 (i := 4) (oi := _) (v := undef) rfl (by kernel_rfl) (by kernel_rfl) (by kernel_rfl) (fun _ _ _ h => h) (Or.inr ⟨by kernel_rfl, rfl⟩) hHeld (by rfl) ?_
      simp only [List.setIfInBounds_toArray, List.set_cons_succ, List.set_cons_zero]
      refine wpAnyH_takeN 71 (i := 5) (oi := _) (v := .bool true) rfl (by kernel_rfl) (by kernel_rfl) (by kernel_rfl) (fun _ _ _ h => h) (Or.inl ⟨by kernel_rfl, ?_⟩) hHeld (by rfl) ?_
      · intro u hSu
        go_simp
        all_goals first | omega | (intro hh; omega) | exact IntWalk.i64_in _ (by omega)
      simp only [List.setIfInBounds_toArray, List.set_cons_succ, List.set_cons_zero]
      refine wpAnyH_takeN 72 (i := 6) (oi := _) (v := .bool true) rfl (by kernel_rfl) (by kernel_rfl) (by kernel_rfl) (fun _ _ _ h => h) (Or.inl ⟨by kernel_rfl, ?_⟩) hHeld (by rfl) ?_
      · intro u hSu
        go_simp
        all_goals first | omega | (intro hh; omega) | exact IntWalk.i64_in _ (by omega)
      simp only [List.setIfInBounds_toArray, List.set_cons_succ, List.set_cons_zero]
      refine wpAnyH_takeN 73 (i := 7) (oi := _) (v := undef) rfl (by kernel_rfl) (by kernel_rfl) (by kernel_rfl) (fun _ _ _ h => h) (Or.inr ⟨by kernel_rfl, rfl⟩) hHeld (by rfl) ?_
      simp only [List.setIfInBounds_toArray, List.set_cons_succ, List.set_cons_zero]
      refine wpAnyH_takeN 74 (i := 8) (oi := _) (v := undef) rfl (by kernel_rfl) (by kernel_rfl) (by kernel_rfl) (fun _ _ _ h => h) (Or.inr ⟨by kernel_rfl, rfl⟩) hHeld (by rfl) ?_
      simp only [List.setIfInBounds_toArray, List.set_cons_succ, List.set_cons_zero]
      refine wpAnyH_takeN 75 (i := 9) (oi := _) (v := undef) rfl (by kernel_rfl) (by kernel_rfl) (by kernel_rfl) (fun _ _ _ h => h) (Or.inr ⟨by kernel_rfl, rfl⟩) hHeld (by rfl) ?_
      simp only [List.setIfInBounds_toArray, List.set_cons_succ, List.set_cons_zero]
      refine wpAnyH_takeN 76 (i := 10) (oi := _) (v := .bool true) rfl (by kernel_rfl) (by kernel_rfl) (by kernel_rfl) (fun _ _ _ h => h) (Or.inl ⟨by kernel_rfl, ?_⟩) hHeld (by rfl) ?_
      · intro u hSu
        go_simp
        all_goals first | omega | (intro hh; omega) | exact IntWalk.i64_in _ (by omega)
      simp only [List.setIfInBounds_toArray, List.set_cons_succ, List.set_cons_zero]
      refine wpAnyH_takeN 77 (i := 11) (oi := _) (v := .bool true) rfl (by kernel_rfl) (by kernel_rfl) (by kernel_rfl) (fun _ _ _ h => h) (Or.inl ⟨by kernel_rfl, ?_⟩) hHeld (by rfl) ?_
      · intro u hSu
        go_simp
        all_goals first | omega | (intro hh; omega) | exact IntWalk.i64_in _ (by omega)
      simp only [List.setIfInBounds_toArray, List.set_cons_succ, List.set_cons_zero]
      refine wpAnyH_takeN 78 (i := 12) (oi := _) (v := undef) rfl (by kernel_rfl) (by kernel_rfl) (by kernel_rfl) (fun _ _ _ h => h) (Or.inr ⟨by kernel_rfl, rfl⟩) hHeld (by rfl) ?_
      simp only [List.setIfInBounds_toArray, List.set_cons_succ, List.set_cons_zero]
      refine wpAnyH_takeN 79 (i := 13) (oi := _) (v := undef) rfl (by kernel_rfl) (by kernel_rfl) (by kernel_rfl) (fun _ _ _ h => h) (Or.inr ⟨by kernel_rfl, rfl⟩) hHeld (by rfl) ?_
      simp only [List.setIfInBounds_toArray, List.set_cons_succ, List.set_cons_zero]
      refine wpAnyH_takeN 80 (i := 14) (oi := _) (v := undef) rfl (by kernel_rfl) (by kernel_rfl) (by kernel_rfl) (fun _ _ _ h => h) (Or.inr ⟨by kernel_rfl, rfl⟩) hHeld (by rfl) ?_
      simp only [List.setIfInBounds_toArray, List.set_cons_succ, List.set_cons_zero]
      refine wpAnyH_takeN 81 (i := 15) (oi := _) (v := undef) rfl (by kernel_rfl) (by kernel_rfl) (by kernel_rfl) (fun _ _ _ h => h) (Or.inr ⟨by kernel_rfl, rfl⟩) hHeld (by rfl) ?_
      simp only [List.setIfInBounds_toArray, List.set_cons_succ, List.set_cons_zero]
      refine wpAnyH_takeN 82 (i := 16) (oi := _) (v := undef) rfl (by kernel_rfl) (by kernel_rfl) (by kernel_rfl) (fun _ _ _ h => h) (Or.inr ⟨by kernel_rfl, rfl⟩) hHeld (by rfl) ?_
      simp only [List.setIfInBounds_toArray, List.set_cons_succ, List.set_cons_zero]
      refine wpAnyH_takeN 83 (i := 17) (oi := _) (v := undef) rfl (by kernel_rfl) (by kernel_rfl) (by kernel_rfl) (fun _ _ _ h => h) (Or.inr ⟨by kernel_rfl, rfl⟩) hHeld (by rfl) ?_
      simp only [List.setIfInBounds_toArray, List.set_cons_succ, List.set_cons_zero]
      refine wpAnyH_takeN 84 (i := 18) (oi := _) (v := undef) rfl (by kernel_rfl) (by kernel_rfl) (by kernel_rfl) (fun _ _ _ h => h) (Or.inr ⟨by kernel_rfl, rfl⟩) hHeld (by rfl) ?_
      simp only [List.setIfInBounds_toArray, List.set_cons_succ, List.set_cons_zero]
      refine wpAnyH_takeN 85 (i := 19) (oi := _) (v := undef) rfl (by kernel_rfl) (by kernel_rfl) (by kernel_rfl) (fun _ _ _ h => h) (Or.inr ⟨by kernel_rfl, rfl⟩) hHeld (by rfl) ?_
      simp only [List.setIfInBounds_toArray, List.set_cons_succ, List.set_cons_zero]
      refine wpAnyH_takeN 86 (i := 20) (oi := _) (v := undef) rfl (by kernel_rfl) (by kernel_rfl) (by kernel_rfl) (fun _ _ _ h => h) (Or.inr ⟨by kernel_rfl, rfl⟩) hHeld (by rfl) ?_
      simp only [List.setIfInBounds_toArray, List.set_cons_succ, List.set_cons_zero]
      refine wpAnyH_takeN 87 (i := 21) (oi := _) (v := undef) rfl (by kernel_rfl) (by kernel_rfl) (by kernel_rfl) (fun _ _ _ h => h) (Or.inr ⟨by kernel_rfl, rfl⟩) hHeld (by rfl) ?_
      simp only [List.setIfInBounds_toArray, List.set_cons_succ, List.set_cons_zero]
      refine wpAnyH_takeN 88 (i := 22) (oi := _) (v := undef) rfl (by kernel_rfl) (by kernel_rfl) (by kernel_rfl) (fun _ _ _ h => h) (Or.inr ⟨by kernel_rfl, rfl⟩) hHeld (by rfl) ?_
      simp only [List.setIfInBounds_toArray, List.set_cons_succ, List.set_cons_zero]
      refine wpAnyH_takeN 89 (i := 23) (oi := _) (v := undef) rfl (by kernel_rfl) (by kernel_rfl) (by kernel_rfl) (fun _ _ _ h => h) (Or.inr ⟨by kernel_rfl, rfl⟩) hHeld (by rfl) ?_
      simp only [List.setIfInBounds_toArray, List.set_cons_succ, List.set_cons_zero]
      refine wpAnyH_takeN 90 (i := 24) (oi := _) (v := undef) rfl (by kernel_rfl) (by kernel_rfl) (by kernel_rfl) (fun _ _ _ h => h) (Or.inr ⟨by kernel_rfl, rfl⟩) hHeld (by rfl) ?_
      simp only [List.setIfInBounds_toArray, List.set_cons_succ, List.set_cons_zero]
      refine wpAnyH_takeN 91 (i := 25) (oi := _) (v := undef) rfl (by kernel_rfl) (by kernel_rfl) (by kernel_rfl) (fun _ _ _ h => h) (Or.inr ⟨by kernel_rfl, rfl⟩) hHeld (by rfl) ?_
      simp only [List.setIfInBounds_toArray, List.set_cons_succ, List.set_cons_zero]
      refine wpAnyH_takeN 92 (i := 26) (oi := _) (v := undef) rfl (by kernel_rfl) (by kernel_rfl) (by kernel_rfl) (fun _ _ _ h => h) (Or.inr ⟨by kernel_rfl, rfl⟩) hHeld (by rfl) ?_
      simp only [List.setIfInBounds_toArray, List.set_cons_succ, List.set_cons_zero]
      refine wpAnyH_takeN 93 (i := 27) (oi := _) (v := .bool true) rfl (by kernel_rfl) (by kernel_rfl) (by kernel_rfl) (fun _ _ _ h => h) (Or.inl ⟨by kernel_rfl, ?_⟩) hHeld (by rfl) ?_
      · intro u hSu
        go_simp
        all_goals first | omega | (intro hh; omega) | exact IntWalk.i64_in _ (by omega)
      simp only [List.setIfInBounds_toArray, List.set_cons_succ, List.set_cons_zero]
      refine wpAnyH_done (by kernel_rfl) ?_ _
      go_wp2
      go_ret2
      exact HFIN.out HNO.out _ HBz.out
    cases b2
    · have HNO := Lib.hid (show ∀ e, ¬ NextE out c0 l e from fun e he => by have := (HXL.out e he).2.2; cases this)
      have HBz := HB5d
      go_wp2_with fail
      refine wp_region_held_drew (S := fun _ => True) (by kernel_rfl) (trivial) (fun hHeld => ?_)
      refine wpAnyH_takeN 66 (i := 0) (oi := _) (v := .bool true) rfl (by kernel_rfl) (by kernel_rfl) (by kernel_rfl) (fun _ _ _ h => h) (Or.inl ⟨by kernel_rfl, ?_⟩) hHeld (by rfl) ?_
      · intro u hSu
        go_simp
        all_goals first | omega | (intro hh; omega) | exact IntWalk.i64_in _ (by omega)
      simp only [List.setIfInBounds_toArray, List.set_cons_succ, List.set_cons_zero]
      refine wpAnyH_takeN 67 (i := 1) (oi := _) (v := .bool false) rfl (by kernel_rfl) (by kernel_rfl) (by kernel_rfl) (fun _ _ _ h => h) (Or.inl ⟨by kernel_rfl, ?_⟩) hHeld (by rfl) ?_
      · intro u hSu
        go_simp
        all_goals first | omega | (intro hh; omega) | exact IntWalk.i64_in _ (by omega)
      simp only [List.setIfInBounds_toArray, List.set_cons_succ, List.set_cons_zero]
      refine wpAnyH_takeN 68 (i := 2) (oi := _) (v := .bool false) rfl (by kernel_rfl) (by kernel_rfl) (by kernel_rfl) (fun _ _ _ h => h) (Or.inl ⟨by kernel_rfl, ?_⟩) hHeld (by rfl) ?_
      · intro u hSu
        go_simp
        all_goals first | omega | (intro hh; omega) | exact IntWalk.i64_in _ (by omega)
      simp only [List.setIfInBounds_toArray, List.set_cons_succ, List.set_cons_zero]
      refine wpAnyH_takeN 69 (i := 3) (oi := _) (v := .bool false) rfl (by kernel_rfl) (by kernel_rfl) (by kernel_rfl) (fun _ _ _ h => h) (Or.inl ⟨by kernel_rfl, ?_⟩) hHeld (by rfl) ?_
      · intro u hSu
        go_simp
        all_goals first | omega | (intro hh; omega) | exact IntWalk.i64_in _ (by omega)
      simp only [List.setIfInBounds_toArray, List.set_cons_succ, List.set_cons_zero]
      refine wpAnyH_takeN 70 (i := 4) (oi := _) (v := .bool true) rfl (by kernel_rfl) (by kernel_rfl) (by kernel_rfl) (fun _ _ _ h => h) (Or.inl ⟨by kernel_rfl, ?_⟩) hHeld (by rfl) ?_
      · intro u hSu
        go_simp
        all_goals first | omega | (intro hh; omega) | exact IntWalk.i64_in _ (by omega)
      simp only [List.setIfInBounds_toArray, List.set_cons_succ, List.set_cons_zero]
      refine wpAnyH_takeN 71 (i := 5) (oi := _) (v := .bool true) rfl (by kernel_rfl) (by kernel_rfl) (by kernel_rfl) (fun _ _ _ h => h) (Or.inl ⟨by kernel_rfl, ?_⟩) hHeld (by rfl) ?_
      · intro u hSu
        go_simp
        all_goals first | omega | (intro hh; omega) | exact IntWalk.i64_in _ (by omega)
      simp only [List.setIfInBounds_toArray, List.set_cons_succ, List.set_cons_zero]
      refine wpAnyH_takeN 72 (i := 6) (oi := _) (v := .bool true) rfl (by kernel_rfl) (by kernel_rfl) (by kernel_rfl) (fun _ _ _ h => h) (Or.inl ⟨by kernel_rfl, ?_⟩) hHeld (by rfl) ?_
      · intro u hSu
        go_simp
        all_goals first | omega | (intro hh; omega) | exact IntWalk.i64_in _ (by omega)
      simp only [List.setIfInBounds_toArray, List.set_cons_succ, List.set_cons_zero]
      refine wpAnyH_takeN 73 (i := 7) (oi := _) (v := undef) rfl (by kernel_rfl) (by kernel_rfl) (by kernel_rfl) (fun _ _ _ h => h) (Or.inr ⟨by kernel_rfl, rfl⟩) hHeld (by rfl) ?_
      simp only [List.setIfInBounds_toArray, List.set_cons_succ, List.set_cons_zero]
      refine wpAnyH_takeN 74 (i := 8) (oi := _) (v := undef) rfl (by kernel_rfl) (by kernel_rfl) (by kernel_rfl) (fun _ _ _ h => h) (Or.inr ⟨by kernel_rfl, rfl⟩) hHeld (by rfl) ?_
      simp only [List.setIfInBounds_toArray, List.set_cons_succ, List.set_cons_zero]
      refine wpAnyH_takeN 75 (i := 9) (oi := _) (v := undef) rfl (by kernel_rfl) (by kernel_rfl) (by kernel_rfl) (fun _ _ _ h => h) (Or.inr ⟨by kernel_rfl, rfl⟩) hHeld (by rfl) ?_
      simp only [List.setIfInBounds_toArray, List.set_cons_succ, List.set_cons_zero]
      refine wpAnyH_takeN 76 (i := 10) (oi := _) (v := .bool true) rfl (by kernel_rfl) (by kernel_rfl) (by kernel_rfl) (fun _ _ _ h => h) (Or.inl ⟨by kernel_rfl, ?_⟩) hHeld (by rfl) ?_
      · intro u hSu
        go_simp
        all_goals first | omega | (intro hh; omega) | exact IntWalk.i64_in _ (by omega)
      simp only [List.setIfInBounds_toArray, List.set_cons_succ, List.set_cons_zero]
      refine wpAnyH_takeN 77 (i := 11) (oi := _) (v := .bool true) rfl (by kernel_rfl) (by kernel_rfl) (by kernel_rfl) (fun _ _ _ h => h) (Or.inl ⟨by kernel_rfl, ?_⟩) hHeld (by rfl) ?_
      · intro u hSu
        go_simp
        all_goals first | omega | (intro hh; omega) | exact IntWalk.i64_in _ (by omega)
      simp only [List.setIfInBounds_toArray, List.set_cons_succ, List.set_cons_zero]
      refine wpAnyH_takeN 78 (i := 12) (oi := _) (v := undef) rfl (by kernel_rfl) (by kernel_rfl) (by kernel_rfl) (fun _ _ _ h => h) (Or.inr ⟨by kernel_rfl, rfl⟩) hHeld (by rfl) ?_
      simp only [List.setIfInBounds_toArray, List.set_cons_succ, List.set_cons_zero]
      refine wpAnyH_takeN 79 (i := 13) (oi := _) (v := undef) rfl (by kernel_rfl) (by kernel_rfl) (by kernel_rfl) (fun _ _ _ h => h) (Or.inr ⟨by kernel_rfl, rfl⟩) hHeld (by rfl) ?_
      simp only [List.setIfInBounds_toArray, List.set_cons_succ, List.set_cons_zero]
      refine wpAnyH_takeN 80 (i := 14) (oi := _) (v := undef) rfl (by kernel_rfl) (by kernel_rfl) (by kernel_rfl) (fun _ _ _ h => h) (Or.inr ⟨by kernel_rfl, rfl⟩) hHeld (by rfl) ?_
      simp only [List.setIfInBounds_toArray, List.set_cons_succ, List.set_cons_zero]
      refine wpAnyH_takeN 81 (i := 15) (oi := _) (v := undef) rfl (by kernel_rfl) (by kernel_rfl) (by kernel_rfl) (fun _ _ _ h => h) (Or.inr ⟨by kernel_rfl, rfl⟩) hHeld (by rfl) ?_
      simp only [List.setIfInBounds_toArray, List.set_cons_succ, List.set_cons_zero]
      refine wpAnyH_takeN 82 (i := 16) (oi := _) (v := undef) rfl (by kernel_rfl) (by kernel_rfl) (by kernel_rfl) (fun _ _ _ h => h) (Or.inr ⟨by kernel_rfl, rfl⟩) hHeld (by rfl) ?_
      simp only [List.setIfInBounds_toArray, List.set_cons_succ, List.set_cons_zero]
      refine wpAnyH_takeN 83 (i := 17) (oi := _) (v := undef) rfl (by kernel_rfl) (by kernel_rfl) (by kernel_rfl) (fun _ _ _ h => h) (Or.inr ⟨by kernel_rfl, rfl⟩) hHeld (by rfl) ?_
      simp only [List.setIfInBounds_toArray, List.set_cons_succ, List.set_cons_zero]
      refine wpAnyH_takeN 84 (i := 18) (oi := _) (v := undef) rfl (by kernel_rfl) (by kernel_rfl) (by kernel_rfl) (fun _ _ _ h => h) (Or.inr ⟨by kernel_rfl, rfl⟩) hHeld (by rfl) ?_
      simp only [List.setIfInBounds_toArray, List.set_cons_succ, List.set_cons_zero]
      refine wpAnyH_takeN 85 (i := 19) (oi := _) (v := undef) rfl (by kernel_rfl) (by kernel_rfl) (by kernel_rfl) (fun _ _ _ h => h) (Or.inr ⟨by kernel_rfl, rfl⟩) hHeld (by rfl) ?_
      simp only [List.setIfInBounds_toArray, List.set_cons_succ, List.set_cons_zero]
      refine wpAnyH_takeN 86 (i := 20) (oi := _) (v := undef) rfl (by kernel_rfl) (by kernel_rfl) (by kernel_rfl) (fun _ _ _ h => h) (Or.inr ⟨by kernel_rfl, rfl⟩) hHeld (by rfl) ?_
      simp only [List.setIfInBounds_toArray, List.set_cons_succ, List.set_cons_zero]
      refine wpAnyH_takeN 87 (i := 21) (oi := _) (v := undef) rfl (by kernel_rfl) (by kernel_rfl) (by kernel_rfl) (fun _ _ _ h => h) (Or.inr ⟨by kernel_rfl, rfl⟩) hHeld (by rfl) ?_
      simp only [List.setIfInBounds_toArray, List.set_cons_succ, List.set_cons_zero]
      refine wpAnyH_takeN 88 (i := 22) (oi := _) (v := undef) rfl (by kernel_rfl) (by kernel_rfl) (by kernel_rfl) (fun _ _ _ h => h) (Or.inr ⟨by kernel_rfl, rfl⟩) hHeld (by rfl) ?_
      simp only [List.setIfInBounds_toArray, List.set_cons_succ, List.set_cons_zero]
      refine wpAnyH_takeN 89 (i := 23) (oi := _) (v := undef) rfl (by kernel_rfl) (by kernel_rfl) (by kernel_rfl) (fun _ _ _ h => h) (Or.inr ⟨by kernel_rfl, rfl⟩) hHeld (by rfl) ?_
      simp only [List.setIfInBounds_toArray, List.set_cons_succ, List.set_cons_zero]
      refine wpAnyH_takeN 90 (i := 24) (oi := _) (v := undef) rfl (by kernel_rfl) (by kernel_rfl) (by kernel_rfl) (fun _ _ _ h => h) (Or.inr ⟨by kernel_rfl, rfl⟩) hHeld (by rfl) ?_
      simp only [List.setIfInBounds_toArray, List.set_cons_succ, List.set_cons_zero]
      refine wpAnyH_takeN 91 (i := 25) (oi := _) (v := undef) rfl (by kernel_rfl) (by kernel_rfl) (by kernel_rfl) (fun _ _ _ h => h) (Or.inr ⟨by kernel_rfl, rfl⟩) hHeld (by rfl) ?_
      simp only [List.setIfInBounds_toArray, List.set_cons_succ, List.set_cons_zero]
      refine wpAnyH_takeN 92 (i := 26) (oi := _) (v := undef) rfl (by kernel_rfl) (by kernel_rfl) (by kernel_rfl) (fun _ _ _ h => h) (Or.inr ⟨by kernel_rfl, rfl⟩) hHeld (by rfl) ?_
      simp only [List.setIfInBounds_toArray, List.set_cons_succ, List.set_cons_zero]
      refine wpAnyH_takeN 93 (i := 27) (oi := _) (v := .bool true) rfl (by kernel_rfl) (by kernel_rfl) (by kernel_rfl) (fun _ _ _ h => h) (Or.inl ⟨by kernel_rfl, ?_⟩) hHeld (by rfl) ?_
      · intro u hSu
        go_simp
        all_goals first | omega | (intro hh; omega) | exact IntWalk.i64_in _ (by omega)
      simp only [List.setIfInBounds_toArray, List.set_cons_succ, List.set_cons_zero]
      refine wpAnyH_done (by kernel_rfl) ?_ _
      go_wp2
      go_ret2
      exact HFIN.out HNO.out _ HBz.out
    cases hbe : entryB x
    · have HNO := Lib.hid (show ∀ e, ¬ NextE out c0 l e from fun e he => by
        have h1 := (HXL.out e he).1
        have h2 := he.2.1
        rw [← h1, hbe] at h2
        cases h2)
      rw [hbe] at HCE
      go_wp2_with fail
      refine wp_region_held_drew (S := fun w' => w'.cell? ⟨G, 0, none⟩ = some (.int .i64 n1) ∧ w'.cell? ⟨G, 1, none⟩ = some (.int .i64 (accP sb)) ∧ w'.cell? ⟨G, 2, none⟩ = some (.int .i64 (accP sc)) ∧ w'.cell? ⟨G, 3, none⟩ = some (.int .i64 n2)) (by kernel_rfl) (HS4.out _ HK5.out.drew) (fun hHeld => ?_)
      refine wpAnyH_takeN 66 (i := 0) (oi := _) (v := .bool true) rfl (by kernel_rfl) (by kernel_rfl) (by kernel_rfl) (fun _ _ _ h => h) (Or.inl ⟨by kernel_rfl, ?_⟩) hHeld (by rfl) ?_
      · intro u hSu
        go_simp
        all_goals first | omega | (intro hh; omega) | exact IntWalk.i64_in _ (by omega)
      simp only [List.setIfInBounds_toArray, List.set_cons_succ, List.set_cons_zero]
      refine wpAnyH_takeN 67 (i := 1) (oi := _) (v := .bool false) rfl (by kernel_rfl) (by kernel_rfl) (by kernel_rfl) (fun _ _ _ h => h) (Or.inl ⟨by kernel_rfl, ?_⟩) hHeld (by rfl) ?_
      · intro u hSu
        go_simp
        all_goals first | omega | (intro hh; omega) | exact IntWalk.i64_in _ (by omega)
      simp only [List.setIfInBounds_toArray, List.set_cons_succ, List.set_cons_zero]
      refine wpAnyH_takeN 68 (i := 2) (oi := _) (v := .bool false) rfl (by kernel_rfl) (by kernel_rfl) (by kernel_rfl) (fun _ _ _ h => h) (Or.inl ⟨by kernel_rfl, ?_⟩) hHeld (by rfl) ?_
      · intro u hSu
        go_simp
        all_goals first | omega | (intro hh; omega) | exact IntWalk.i64_in _ (by omega)
      simp only [List.setIfInBounds_toArray, List.set_cons_succ, List.set_cons_zero]
      refine wpAnyH_takeN 69 (i := 3) (oi := _) (v := .bool true) rfl (by kernel_rfl) (by kernel_rfl) (by kernel_rfl) (fun _ _ _ h => h) (Or.inl ⟨by kernel_rfl, ?_⟩) hHeld (by rfl) ?_
      · intro u hSu
        go_simp
        all_goals first | omega | (intro hh; omega) | exact IntWalk.i64_in _ (by omega)
      simp only [List.setIfInBounds_toArray, List.set_cons_succ, List.set_cons_zero]
      refine wpAnyH_takeN 70 (i := 4) (oi := _) (v := .bool false) rfl (by kernel_rfl) (by kernel_rfl) (by kernel_rfl) (fun _ _ _ h => h) (Or.inl ⟨by kernel_rfl, ?_⟩) hHeld (by rfl) ?_
      · intro u hSu
        go_simp
        all_goals first | omega | (intro hh; omega) | exact IntWalk.i64_in _ (by omega)
      simp only [List.setIfInBounds_toArray, List.set_cons_succ, List.set_cons_zero]
      refine wpAnyH_takeN 71 (i := 5) (oi := _) (v := .bool false) rfl (by kernel_rfl) (by kernel_rfl) (by kernel_rfl) (fun _ _ _ h => h) (Or.inl ⟨by kernel_rfl, ?_⟩) hHeld (by rfl) ?_
      · intro u hSu
        go_simp
        all_goals first | omega | (intro hh; omega) | exact IntWalk.i64_in _ (by omega)
      simp only [List.setIfInBounds_toArray, List.set_cons_succ, List.set_cons_zero]
      refine wpAnyH_takeN 72 (i := 6) (oi := _) (v := .bool false) rfl (by kernel_rfl) (by kernel_rfl) (by kernel_rfl) (fun _ _ _ h => h) (Or.inl ⟨by kernel_rfl, ?_⟩) hHeld (by rfl) ?_
      · intro u hSu
        go_simp
        all_goals first | omega | (intro hh; omega) | exact IntWalk.i64_in _ (by omega)
      simp only [List.setIfInBounds_toArray, List.set_cons_succ, List.set_cons_zero]
      refine wpAnyH_takeN 73 (i := 7) (oi := _) (v := .agg #[.int .i64 n1, .int .i64 (accP sb), .int .i64 (accP sc), .int .i64 n2]) rfl (by kernel_rfl) (by kernel_rfl) (by kernel_rfl) (fun _ _ _ h => h) (Or.inl ⟨by kernel_rfl, ?_⟩) hHeld (by rfl) ?_
      · intro u hSu
        go_simp
        all_goals first | omega | (intro hh; omega) | exact IntWalk.i64_in _ (by omega)
      simp only [List.setIfInBounds_toArray, List.set_cons_succ, List.set_cons_zero]
      refine wpAnyH_ready (rs := [8]) (by kernel_rfl) (by simp) ?_
      refine AllReadyH.cons (o := _) rfl (fun K hK => ?_) AllReadyH.nil
      go_simp
      refine (HCE.out _).mono ?_
      rintro e w6 ⟨rfl, hb6⟩
      have HK6 := Lib.hid (HK5.out.drew.below' hb6)
      have HB6 := Lib.hid (HB5d.out.trans (hb6.mono HB5d.out.size))
      clear hb6
      refine hK.out _ _ ?_ (fun hHeld => ?_)
      · exact HS4.out _ HK6.out
      clear hK K
      refine wpAnyH_takeN 75 (i := 9) (oi := _) (v := .bool true) rfl (by kernel_rfl) (by kernel_rfl) (by kernel_rfl) (fun _ _ _ h => h) (Or.inl ⟨by kernel_rfl, ?_⟩) hHeld (by rfl) ?_
      · intro u hSu
        go_simp
        all_goals first | omega | (intro hh; omega) | exact IntWalk.i64_in _ (by omega)
      simp only [List.setIfInBounds_toArray, List.set_cons_succ, List.set_cons_zero]
      refine wpAnyH_takeN 76 (i := 10) (oi := _) (v := .bool true) rfl (by kernel_rfl) (by kernel_rfl) (by kernel_rfl) (fun _ _ _ h => h) (Or.inl ⟨by kernel_rfl, ?_⟩) hHeld (by rfl) ?_
      · intro u hSu
        go_simp
        all_goals first | omega | (intro hh; omega) | exact IntWalk.i64_in _ (by omega)
      simp only [List.setIfInBounds_toArray, List.set_cons_succ, List.set_cons_zero]
      refine wpAnyH_takeN 77 (i := 11) (oi := _) (v := .bool true) rfl (by kernel_rfl) (by kernel_rfl) (by kernel_rfl) (fun _ _ _ h => h) (Or.inl ⟨by kernel_rfl, ?_⟩) hHeld (by rfl) ?_
      · intro u hSu
        go_simp
        all_goals first | omega | (intro hh; omega) | exact IntWalk.i64_in _ (by omega)
      simp only [List.setIfInBounds_toArray, List.set_cons_succ, List.set_cons_zero]
      refine wpAnyH_takeN 78 (i := 12) (oi := _) (v := undef) rfl (by kernel_rfl) (by kernel_rfl) (by kernel_rfl) (fun _ _ _ h => h) (Or.inr ⟨by kernel_rfl, rfl⟩) hHeld (by rfl) ?_
      simp only [List.setIfInBounds_toArray, List.set_cons_succ, List.set_cons_zero]
      refine wpAnyH_takeN 79 (i := 13) (oi := _) (v := undef) rfl (by kernel_rfl) (by kernel_rfl) (by kernel_rfl) (fun _ _ _ h => h) (Or.inr ⟨by kernel_rfl, rfl⟩) hHeld (by rfl) ?_
      simp only [List.setIfInBounds_toArray, List.set_cons_succ, List.set_cons_zero]
      refine wpAnyH_takeN 80 (i := 14) (oi := _) (v := undef) rfl (by kernel_rfl) (by kernel_rfl) (by kernel_rfl) (fun _ _ _ h => h) (Or.inr ⟨by kernel_rfl, rfl⟩) hHeld (by rfl) ?_
      simp only [List.setIfInBounds_toArray, List.set_cons_succ, List.set_cons_zero]
      refine wpAnyH_takeN 81 (i := 15) (oi := _) (v := undef) rfl (by kernel_rfl) (by kernel_rfl) (by kernel_rfl) (fun _ _ _ h => h) (Or.inr ⟨by kernel_rfl, rfl⟩) hHeld (by rfl) ?_
      simp only [List.setIfInBounds_toArray, List.set_cons_succ, List.set_cons_zero]
      refine wpAnyH_takeN 82 (i := 16) (oi := _) (v := undef) rfl (by kernel_rfl) (by kernel_rfl) (by kernel_rfl) (fun _ _ _ h => h) (Or.inr ⟨by kernel_rfl, rfl⟩) hHeld (by rfl) ?_
      simp only [List.setIfInBounds_toArray, List.set_cons_succ, List.set_cons_zero]
      refine wpAnyH_takeN 83 (i := 17) (oi := _) (v := undef) rfl (by kernel_rfl) (by kernel_rfl) (by kernel_rfl) (fun _ _ _ h => h) (Or.inr ⟨by kernel_rfl, rfl⟩) hHeld (by rfl) ?_
      simp only [List.setIfInBounds_toArray, List.set_cons_succ, List.set_cons_zero]
      refine wpAnyH_takeN 84 (i := 18) (oi := _) (v := undef) rfl (by kernel_rfl) (by kernel_rfl) (by kernel_rfl) (fun _ _ _ h => h) (Or.inr ⟨by kernel_rfl, rfl⟩) hHeld (by rfl) ?_
      simp only [List.setIfInBounds_toArray, List.set_cons_succ, List.set_cons_zero]
      refine wpAnyH_takeN 85 (i := 19) (oi := _) (v := undef) rfl (by kernel_rfl) (by kernel_rfl) (by kernel_rfl) (fun _ _ _ h => h) (Or.inr ⟨by kernel_rfl, rfl⟩) hHeld (by rfl) ?_
      simp only [List.setIfInBounds_toArray, List.set_cons_succ, List.set_cons_zero]
      refine wpAnyH_takeN 86 (i := 20) (oi := _) (v := undef) rfl (by kernel_rfl) (by kernel_rfl) (by kernel_rfl) (fun _ _ _ h => h) (Or.inr ⟨by kernel_rfl, rfl⟩) hHeld (by rfl) ?_
      simp only [List.setIfInBounds_toArray, List.set_cons_succ, List.set_cons_zero]
      refine wpAnyH_takeN 87 (i := 21) (oi := _) (v := undef) rfl (by kernel_rfl) (by kernel_rfl) (by kernel_rfl) (fun _ _ _ h => h) (Or.inr ⟨by kernel_rfl, rfl⟩) hHeld (by rfl) ?_
      simp only [List.setIfInBounds_toArray, List.set_cons_succ, List.set_cons_zero]
      refine wpAnyH_takeN 88 (i := 22) (oi := _) (v := undef) rfl (by kernel_rfl) (by kernel_rfl) (by kernel_rfl) (fun _ _ _ h => h) (Or.inr ⟨by kernel_rfl, rfl⟩) hHeld (by rfl) ?_
      simp only [List.setIfInBounds_toArray, List.set_cons_succ, List.set_cons_zero]
      refine wpAnyH_takeN 89 (i := 23) (oi := _) (v := undef) rfl (by kernel_rfl) (by kernel_rfl) (by kernel_rfl) (fun _ _ _ h => h) (Or.inr ⟨by kernel_rfl, rfl⟩) hHeld (by rfl) ?_
      simp only [List.setIfInBounds_toArray, List.set_cons_succ, List.set_cons_zero]
      refine wpAnyH_takeN 90 (i := 24) (oi := _) (v := undef) rfl (by kernel_rfl) (by kernel_rfl) (by kernel_rfl) (fun _ _ _ h => h) (Or.inr ⟨by kernel_rfl, rfl⟩) hHeld (by rfl) ?_
      simp only [List.setIfInBounds_toArray, List.set_cons_succ, List.set_cons_zero]
      refine wpAnyH_takeN 91 (i := 25) (oi := _) (v := undef) rfl (by kernel_rfl) (by kernel_rfl) (by kernel_rfl) (fun _ _ _ h => h) (Or.inr ⟨by kernel_rfl, rfl⟩) hHeld (by rfl) ?_
      simp only [List.setIfInBounds_toArray, List.set_cons_succ, List.set_cons_zero]
      refine wpAnyH_takeN 92 (i := 26) (oi := _) (v := undef) rfl (by kernel_rfl) (by kernel_rfl) (by kernel_rfl) (fun _ _ _ h => h) (Or.inr ⟨by kernel_rfl, rfl⟩) hHeld (by rfl) ?_
      simp only [List.setIfInBounds_toArray, List.set_cons_succ, List.set_cons_zero]
      refine wpAnyH_takeN 93 (i := 27) (oi := _) (v := .bool true) rfl (by kernel_rfl) (by kernel_rfl) (by kernel_rfl) (fun _ _ _ h => h) (Or.inl ⟨by kernel_rfl, ?_⟩) hHeld (by rfl) ?_
      · intro u hSu
        go_simp
        all_goals first | omega | (intro hh; omega) | exact IntWalk.i64_in _ (by omega)
      simp only [List.setIfInBounds_toArray, List.set_cons_succ, List.set_cons_zero]
      refine wpAnyH_done (by kernel_rfl) ?_ _
      have HBz := HB6
      go_wp2
      go_ret2
      exact HFIN.out HNO.out _ HBz.out
    rw [hbe] at HCE
    have HBE := Lib.hid hbe
    clear hbe
    rcases Nat.eq_zero_or_pos q with hq0 | hq0
    · subst hq0
      have HLT := Lib.hid (show lateB out x = false by rw [List.eq_nil_of_length_eq_zero hq]; exact lateB_nil x)
      have hxo := Lib.hid (entry_ok HBE.out)
      have hlt150 : out.length < 150 := by omega
      have HLG := Lib.hid (ledger_snoc HG.out hlt150 HBE.out HLT.out)
      have hcb2 := chk_bound c0 x
      obtain ⟨c1, hck⟩ : ∃ c1, chkP c0 x = c1 := ⟨_, rfl⟩
      have HCK := Lib.hid (fun X => spec_l22Check_any c0 x ⟨hc0, hc1⟩ hxo.out X)
      rw [hck] at hcb2 HCK
      have HLIN := Lib.hid (fun X => spec_l22Line_any x c1 hcb2 hxo.out X)
      rw [← HROW.out] at HCK HLIN
      obtain ⟨LN, hLN⟩ : ∃ LN, S (lineL x c1) = LN := ⟨_, rfl⟩
      rw [hLN] at HLIN
      have HNX := Lib.hid (fun (h : LN = sl) => (show NextE out c0 l x from ⟨hlt150, HBE.out, HLT.out, by rw [hck]; exact (S_inj ((hLN.trans h).trans HSL.out.symm)).symm⟩))
      have HNO := Lib.hid (fun (h : ¬ LN = sl) => (show ∀ e, ¬ NextE out c0 l e from fun e he => by
        have h1 := (HXL.out e he).1
        have h2 := he.2.2.2
        rw [← h1, hck] at h2
        exact h (by rw [← hLN, ← h2]; exact HSL.out)))
      have HGO := Lib.hid (fun (h : NextE out c0 l x) => (show recL ls [] 0 = recL (ls.drop (k + 1)) (out ++ [x]) c1 from by
        rw [HC.out, ← hck]
        exact recL_go Hl.out h (fun y hy => (HXL.out y hy).1)))
      clear hck hLN
      go_wp2_with fail
      refine wp_region_held_drew (S := fun w' => w'.cell? ⟨G, 0, none⟩ = some (.int .i64 n1) ∧ w'.cell? ⟨G, 1, none⟩ = some (.int .i64 (accP sb)) ∧ w'.cell? ⟨G, 2, none⟩ = some (.int .i64 (accP sc)) ∧ w'.cell? ⟨G, 3, none⟩ = some (.int .i64 n2)) (by kernel_rfl) (HS4.out _ HK5.out.drew) (fun hHeld => ?_)
      refine wpAnyH_takeN 66 (i := 0) (oi := _) (v := .bool true) rfl (by kernel_rfl) (by kernel_rfl) (by kernel_rfl) (fun _ _ _ h => h) (Or.inl ⟨by kernel_rfl, ?_⟩) hHeld (by rfl) ?_
      · intro u hSu
        go_simp
        all_goals first | omega | (intro hh; omega) | exact IntWalk.i64_in _ (by omega)
      simp only [List.setIfInBounds_toArray, List.set_cons_succ, List.set_cons_zero]
      refine wpAnyH_takeN 67 (i := 1) (oi := _) (v := .bool false) rfl (by kernel_rfl) (by kernel_rfl) (by kernel_rfl) (fun _ _ _ h => h) (Or.inl ⟨by kernel_rfl, ?_⟩) hHeld (by rfl) ?_
      · intro u hSu
        go_simp
        all_goals first | omega | (intro hh; omega) | exact IntWalk.i64_in _ (by omega)
      simp only [List.setIfInBounds_toArray, List.set_cons_succ, List.set_cons_zero]
      refine wpAnyH_takeN 68 (i := 2) (oi := _) (v := .bool false) rfl (by kernel_rfl) (by kernel_rfl) (by kernel_rfl) (fun _ _ _ h => h) (Or.inl ⟨by kernel_rfl, ?_⟩) hHeld (by rfl) ?_
      · intro u hSu
        go_simp
        all_goals first | omega | (intro hh; omega) | exact IntWalk.i64_in _ (by omega)
      simp only [List.setIfInBounds_toArray, List.set_cons_succ, List.set_cons_zero]
      refine wpAnyH_takeN 69 (i := 3) (oi := _) (v := .bool true) rfl (by kernel_rfl) (by kernel_rfl) (by kernel_rfl) (fun _ _ _ h => h) (Or.inl ⟨by kernel_rfl, ?_⟩) hHeld (by rfl) ?_
      · intro u hSu
        go_simp
        all_goals first | omega | (intro hh; omega) | exact IntWalk.i64_in _ (by omega)
      simp only [List.setIfInBounds_toArray, List.set_cons_succ, List.set_cons_zero]
      refine wpAnyH_takeN 70 (i := 4) (oi := _) (v := .bool false) rfl (by kernel_rfl) (by kernel_rfl) (by kernel_rfl) (fun _ _ _ h => h) (Or.inl ⟨by kernel_rfl, ?_⟩) hHeld (by rfl) ?_
      · intro u hSu
        go_simp
        all_goals first | omega | (intro hh; omega) | exact IntWalk.i64_in _ (by omega)
      simp only [List.setIfInBounds_toArray, List.set_cons_succ, List.set_cons_zero]
      refine wpAnyH_takeN 71 (i := 5) (oi := _) (v := .bool false) rfl (by kernel_rfl) (by kernel_rfl) (by kernel_rfl) (fun _ _ _ h => h) (Or.inl ⟨by kernel_rfl, ?_⟩) hHeld (by rfl) ?_
      · intro u hSu
        go_simp
        all_goals first | omega | (intro hh; omega) | exact IntWalk.i64_in _ (by omega)
      simp only [List.setIfInBounds_toArray, List.set_cons_succ, List.set_cons_zero]
      refine wpAnyH_takeN 72 (i := 6) (oi := _) (v := .bool false) rfl (by kernel_rfl) (by kernel_rfl) (by kernel_rfl) (fun _ _ _ h => h) (Or.inl ⟨by kernel_rfl, ?_⟩) hHeld (by rfl) ?_
      · intro u hSu
        go_simp
        all_goals first | omega | (intro hh; omega) | exact IntWalk.i64_in _ (by omega)
      simp only [List.setIfInBounds_toArray, List.set_cons_succ, List.set_cons_zero]
      refine wpAnyH_takeN 73 (i := 7) (oi := _) (v := .agg #[.int .i64 n1, .int .i64 (accP sb), .int .i64 (accP sc), .int .i64 n2]) rfl (by kernel_rfl) (by kernel_rfl) (by kernel_rfl) (fun _ _ _ h => h) (Or.inl ⟨by kernel_rfl, ?_⟩) hHeld (by rfl) ?_
      · intro u hSu
        go_simp
        all_goals first | omega | (intro hh; omega) | exact IntWalk.i64_in _ (by omega)
      simp only [List.setIfInBounds_toArray, List.set_cons_succ, List.set_cons_zero]
      refine wpAnyH_ready (rs := [8]) (by kernel_rfl) (by simp) ?_
      refine AllReadyH.cons (o := _) rfl (fun K hK => ?_) AllReadyH.nil
      go_simp
      refine (HCE.out _).mono ?_
      rintro e w6 ⟨rfl, hb6⟩
      have HK6 := Lib.hid (HK5.out.drew.below' hb6)
      have HB6 := Lib.hid (HB5d.out.trans (hb6.mono HB5d.out.size))
      clear hb6
      refine hK.out _ _ ?_ (fun hHeld => ?_)
      · exact HS4.out _ HK6.out
      clear hK K
      refine wpAnyH_takeN 75 (i := 9) (oi := _) (v := .bool false) rfl (by kernel_rfl) (by kernel_rfl) (by kernel_rfl) (fun _ _ _ h => h) (Or.inl ⟨by kernel_rfl, ?_⟩) hHeld (by rfl) ?_
      · intro u hSu
        go_simp
        all_goals first | omega | (intro hh; omega) | exact IntWalk.i64_in _ (by omega)
      simp only [List.setIfInBounds_toArray, List.set_cons_succ, List.set_cons_zero]
      refine wpAnyH_takeN 76 (i := 10) (oi := _) (v := .bool false) rfl (by kernel_rfl) (by kernel_rfl) (by kernel_rfl) (fun _ _ _ h => h) (Or.inl ⟨by kernel_rfl, ?_⟩) hHeld (by rfl) ?_
      · intro u hSu
        go_simp
        all_goals first | omega | (intro hh; omega) | exact IntWalk.i64_in _ (by omega)
      simp only [List.setIfInBounds_toArray, List.set_cons_succ, List.set_cons_zero]
      refine wpAnyH_takeN 77 (i := 11) (oi := _) (v := .bool false) rfl (by kernel_rfl) (by kernel_rfl) (by kernel_rfl) (fun _ _ _ h => h) (Or.inl ⟨by kernel_rfl, ?_⟩) hHeld (by rfl) ?_
      · intro u hSu
        go_simp
        all_goals first | omega | (intro hh; omega) | exact IntWalk.i64_in _ (by omega)
      simp only [List.setIfInBounds_toArray, List.set_cons_succ, List.set_cons_zero]
      refine wpAnyH_takeN 78 (i := 12) (oi := _) (v := .slice A 0 cap) rfl (by kernel_rfl) (by kernel_rfl) (by kernel_rfl) (fun _ _ _ h => h) (Or.inl ⟨by kernel_rfl, ?_⟩) hHeld (by rfl) ?_
      · intro u hSu
        go_simp
        all_goals first | omega | (intro hh; omega) | exact IntWalk.i64_in _ (by omega)
      simp only [List.setIfInBounds_toArray, List.set_cons_succ, List.set_cons_zero]
      refine wpAnyH_takeN 79 (i := 13) (oi := _) (v := .int .i64 0) rfl (by kernel_rfl) (by kernel_rfl) (by kernel_rfl) (fun _ _ _ h => h) (Or.inl ⟨by kernel_rfl, ?_⟩) hHeld (by rfl) ?_
      · intro u hSu
        go_simp
        all_goals first | omega | (intro hh; omega) | exact IntWalk.i64_in _ (by omega)
      simp only [List.setIfInBounds_toArray, List.set_cons_succ, List.set_cons_zero]
      refine wpAnyH_takeN 80 (i := 14) (oi := _) (v := .bool false) rfl (by kernel_rfl) (by kernel_rfl) (by kernel_rfl) (fun _ _ _ h => h) (Or.inl ⟨by kernel_rfl, ?_⟩) hHeld (by rfl) ?_
      · intro u hSu
        go_simp
        all_goals first | omega | (intro hh; omega) | exact IntWalk.i64_in _ (by omega)
      simp only [List.setIfInBounds_toArray, List.set_cons_succ, List.set_cons_zero]
      refine wpAnyH_takeN 81 (i := 15) (oi := _) (v := .bool false) rfl (by kernel_rfl) (by kernel_rfl) (by kernel_rfl) (fun _ _ _ h => h) (Or.inl ⟨by kernel_rfl, ?_⟩) hHeld (by rfl) ?_
      · intro u hSu
        go_simp
        all_goals first | omega | (intro hh; omega) | exact IntWalk.i64_in _ (by omega)
      simp only [List.setIfInBounds_toArray, List.set_cons_succ, List.set_cons_zero]
      refine wpAnyH_takeN 82 (i := 16) (oi := _) (v := undef) rfl (by kernel_rfl) (by kernel_rfl) (by kernel_rfl) (fun _ _ _ h => h) (Or.inr ⟨by kernel_rfl, rfl⟩) hHeld (by rfl) ?_
      simp only [List.setIfInBounds_toArray, List.set_cons_succ, List.set_cons_zero]
      refine wpAnyH_takeN 83 (i := 17) (oi := _) (v := undef) rfl (by kernel_rfl) (by kernel_rfl) (by kernel_rfl) (fun _ _ _ h => h) (Or.inr ⟨by kernel_rfl, rfl⟩) hHeld (by rfl) ?_
      simp only [List.setIfInBounds_toArray, List.set_cons_succ, List.set_cons_zero]
      refine wpAnyH_takeN 84 (i := 18) (oi := _) (v := undef) rfl (by kernel_rfl) (by kernel_rfl) (by kernel_rfl) (fun _ _ _ h => h) (Or.inr ⟨by kernel_rfl, rfl⟩) hHeld (by rfl) ?_
      simp only [List.setIfInBounds_toArray, List.set_cons_succ, List.set_cons_zero]
      refine wpAnyH_takeN 85 (i := 19) (oi := _) (v := undef) rfl (by kernel_rfl) (by kernel_rfl) (by kernel_rfl) (fun _ _ _ h => h) (Or.inr ⟨by kernel_rfl, rfl⟩) hHeld (by rfl) ?_
      simp only [List.setIfInBounds_toArray, List.set_cons_succ, List.set_cons_zero]
      refine wpAnyH_takeN 86 (i := 20) (oi := _) (v := undef) rfl (by kernel_rfl) (by kernel_rfl) (by kernel_rfl) (fun _ _ _ h => h) (Or.inr ⟨by kernel_rfl, rfl⟩) hHeld (by rfl) ?_
      simp only [List.setIfInBounds_toArray, List.set_cons_succ, List.set_cons_zero]
      refine wpAnyH_takeN 87 (i := 21) (oi := _) (v := undef) rfl (by kernel_rfl) (by kernel_rfl) (by kernel_rfl) (fun _ _ _ h => h) (Or.inr ⟨by kernel_rfl, rfl⟩) hHeld (by rfl) ?_
      simp only [List.setIfInBounds_toArray, List.set_cons_succ, List.set_cons_zero]
      refine wpAnyH_takeN 88 (i := 22) (oi := _) (v := undef) rfl (by kernel_rfl) (by kernel_rfl) (by kernel_rfl) (fun _ _ _ h => h) (Or.inr ⟨by kernel_rfl, rfl⟩) hHeld (by rfl) ?_
      simp only [List.setIfInBounds_toArray, List.set_cons_succ, List.set_cons_zero]
      refine wpAnyH_takeN 89 (i := 23) (oi := _) (v := undef) rfl (by kernel_rfl) (by kernel_rfl) (by kernel_rfl) (fun _ _ _ h => h) (Or.inr ⟨by kernel_rfl, rfl⟩) hHeld (by rfl) ?_
      simp only [List.setIfInBounds_toArray, List.set_cons_succ, List.set_cons_zero]
      refine wpAnyH_takeN 90 (i := 24) (oi := _) (v := undef) rfl (by kernel_rfl) (by kernel_rfl) (by kernel_rfl) (fun _ _ _ h => h) (Or.inr ⟨by kernel_rfl, rfl⟩) hHeld (by rfl) ?_
      simp only [List.setIfInBounds_toArray, List.set_cons_succ, List.set_cons_zero]
      refine wpAnyH_takeN 91 (i := 25) (oi := _) (v := undef) rfl (by kernel_rfl) (by kernel_rfl) (by kernel_rfl) (fun _ _ _ h => h) (Or.inr ⟨by kernel_rfl, rfl⟩) hHeld (by rfl) ?_
      simp only [List.setIfInBounds_toArray, List.set_cons_succ, List.set_cons_zero]
      refine wpAnyH_takeN 92 (i := 26) (oi := _) (v := .bool false) rfl (by kernel_rfl) (by kernel_rfl) (by kernel_rfl) (fun _ _ _ h => h) (Or.inl ⟨by kernel_rfl, ?_⟩) hHeld (by rfl) ?_
      · intro u hSu
        go_simp
        all_goals first | omega | (intro hh; omega) | exact IntWalk.i64_in _ (by omega)
      simp only [List.setIfInBounds_toArray, List.set_cons_succ, List.set_cons_zero]
      refine wpAnyH_takeN 93 (i := 27) (oi := _) (v := .bool false) rfl (by kernel_rfl) (by kernel_rfl) (by kernel_rfl) (fun _ _ _ h => h) (Or.inl ⟨by kernel_rfl, ?_⟩) hHeld (by rfl) ?_
      · intro u hSu
        go_simp
        all_goals first | omega | (intro hh; omega) | exact IntWalk.i64_in _ (by omega)
      simp only [List.setIfInBounds_toArray, List.set_cons_succ, List.set_cons_zero]
      refine wpAnyH_done (by kernel_rfl) ?_ _
      all_goals
        obtain ⟨k0, k1, k2, k3⟩ := HS4.out _ HK6.out
        go_wp2_with fail
        refine (HCK.out _).mono ?_
        rintro e w7 ⟨rfl, hb7⟩
        have HK7 := Lib.hid (HK6.out.below' hb7)
        have HB7 := Lib.hid (HB6.out.trans (hb7.mono HB6.out.size))
        have HR7 := Lib.hid (HR.out.past HB7.out)
        clear k0 k1 k2 k3 hb7 HK6 HB6
        have HL7 := Lib.hid ((HB7.out.cell (block_lt_of_cell cl)).trans cl)
        have HS7 := Lib.hid (show ∀ w', Below w7.heap.size w7 w' → Below w7.heap.size w7 w' ∧ w'.cell? ⟨gw, k, none⟩ = some (.string sl) ∧ w'.cell? ⟨G, 0, none⟩ = some (.int .i64 n1) ∧ w'.cell? ⟨G, 1, none⟩ = some (.int .i64 (accP sb)) ∧ w'.cell? ⟨G, 2, none⟩ = some (.int .i64 (accP sc)) ∧ w'.cell? ⟨G, 3, none⟩ = some (.int .i64 n2) from fun w' q => ⟨q, (q.cell (block_lt_of_cell HL7.out)).trans HL7.out, HS4.out _ (HK7.out.below' q)⟩)
        have HD7 := Lib.hid ((Below.refl w7.heap.size w7).drew)
        have hkr : (k : Int) < (n : Int) + 1 := by omega
        have hkr2 : ¬ (n : Int) + 1 ≤ (k : Int) := by omega
        by_cases hq : LN = sl
        · have hql := str_eq hq
          have HREC := Lib.hid (HGO.out (HNX.out hq))
          clear hq HNX HNO HGO
          go_wp2
          go_region_held3 (fun w' => Below w7.heap.size w7 w' ∧ w'.cell? ⟨gw, k, none⟩ = some (.string sl) ∧ w'.cell? ⟨G, 0, none⟩ = some (.int .i64 n1) ∧ w'.cell? ⟨G, 1, none⟩ = some (.int .i64 (accP sb)) ∧ w'.cell? ⟨G, 2, none⟩ = some (.int .i64 (accP sc)) ∧ w'.cell? ⟨G, 3, none⟩ = some (.int .i64 n2)) (first | exact HS7.out _ hcc8 | exact HS7.out _ HD7.out) (first | (go_at_call 61; refine (HLIN.out _).mono ?_; rintro e w8 ⟨rfl, hb8⟩; have hcc8 := HD7.out.trans (hb8.mono HD7.out.size)))
          all_goals
            have HB8 := Lib.hid (HB7.out.trans (hcc8.mono HB7.out.size))
            have HR8 := Lib.hid (HR7.out.past hcc8)
            obtain ⟨_, _, k0, k1, k2, k3⟩ := HS7.out _ hcc8
            have hwr : w1.heap.size ≤ wr.heap.size := Nat.le_trans hwW HB.out.size
            have HBW8 := Lib.hid (HB.out.trans (HB8.out.mono hwr))
            have hw8 : w1.heap.size ≤ w8.heap.size := Nat.le_trans hwr HB8.out.size
            clear hcc8
            go_wp2_with (at_builtin; refine wpList_append_row_at _ rfl _ _ _ rfl w1.heap.size 78 i0 _ 4 32 Tryz.underlying22 HI.out.1 HI.out.2.1 HI.out.2.2.1 HI.out.2.2.2 rfl (by decide) (by decide) A 0 cap _ rfl HR8.out [.int .i64 n1, .int .i64 (accP sb), .int .i64 (accP sc), .int .i64 n2] _ rfl rfl (by simp [Value.oneCell']) (by omega) hw8 ?_; intro A9 c9 w9 hR9 hb9 _ _)
            rw [show entryRows out ++ [[Value.int .i64 n1, .int .i64 (accP sb), .int .i64 (accP sc), .int .i64 n2]] = entryRows (out ++ [x]) by rw [entryRows_snoc, HX.out]; rfl] at hR9
            have HR9 := Lib.hid hR9
            have HB9 := Lib.hid (HBW8.out.trans hb9)
            clear hR9 hb9
            go_wp2
            go_roundw
            case rel => exact ⟨k + 1, _, c9, A9, out ++ [x], c1, by omega, by go_num, rfl, rfl, by rw [List.length_append, hq, List.length_singleton], by omega, hcb2, HR9, HLG, HREC, HB9⟩
            case measure => simp [intOf]; omega
        · have hql := str_ne hq
          have HNE := Lib.hid (HNO.out hq)
          clear hq HNX HNO HGO
          go_wp2
          go_region_held3 (fun w' => Below w7.heap.size w7 w' ∧ w'.cell? ⟨gw, k, none⟩ = some (.string sl) ∧ w'.cell? ⟨G, 0, none⟩ = some (.int .i64 n1) ∧ w'.cell? ⟨G, 1, none⟩ = some (.int .i64 (accP sb)) ∧ w'.cell? ⟨G, 2, none⟩ = some (.int .i64 (accP sc)) ∧ w'.cell? ⟨G, 3, none⟩ = some (.int .i64 n2)) (first | exact HS7.out _ hcc8 | exact HS7.out _ HD7.out) (first | (go_at_call 61; refine (HLIN.out _).mono ?_; rintro e w8 ⟨rfl, hb8⟩; have hcc8 := HD7.out.trans (hb8.mono HD7.out.size)))
          all_goals
            have HB8 := Lib.hid (HB7.out.trans (hcc8.mono HB7.out.size))
            clear hcc8
            go_wp2
            go_ret2
            exact HFIN.out HNE.out _ HB8.out
    obtain ⟨p, rfl⟩ : ∃ p, q = p + 1 := ⟨q - 1, by omega⟩
    obtain ⟨y, hy⟩ := get_of_lt (xs := out) (k := p) (by omega)
    obtain ⟨ad, rfl, had, _, hcy⟩ := (HR.out.rd).at' (entryRows_get hy)
    have cm0 : wr.cell? (ad.add (p * 4)) = some (.int .i64 y.month) := (Entry.cells hcy).1
    have CM := Lib.hid cm0
    have hy2 : out[out.length - 1]? = some y := by rw [hq]; exact hy
    have hp1 : (p : Int) < (p : Int) + 1 := by omega
    have hp2 : ¬ (p : Int) + 1 ≤ (p : Int) := by omega
    clear hcy cm0 hy
    have HSM := Lib.hid (show ∀ w', Below wr.heap.size wr w' ∧ Blk w' G 78 #[.int .i64 n1, .int .i64 (accP sb), .int .i64 (accP sc), .int .i64 n2] → Below wr.heap.size wr w' ∧ w'.cell? (ad.add (p * 4)) = some (.int .i64 y.month) ∧ w'.cell? ⟨G, 0, none⟩ = some (.int .i64 n1) ∧ w'.cell? ⟨G, 1, none⟩ = some (.int .i64 (accP sb)) ∧ w'.cell? ⟨G, 2, none⟩ = some (.int .i64 (accP sc)) ∧ w'.cell? ⟨G, 3, none⟩ = some (.int .i64 n2) from fun w' h => ⟨h.1, (h.1.cell (block_lt_of_cell CM.out)).trans CM.out, HS4.out _ h.2⟩)
    by_cases hlate : n1 < y.month
    · have HNO := Lib.hid (show ∀ e, ¬ NextE out c0 l e from fun e he => by
        have h1 := (HXL.out e he).1
        have h2 := he.2.2.1
        rw [← h1, lateB_yes hy2 (by rw [HXM.out]; exact hlate)] at h2
        cases h2)
      have hdl : decide (n1 < y.month) = true := by simpa using hlate
      go_wp2_with fail
      refine wp_region_held_drew (S := fun w' => Below wr.heap.size wr w' ∧ w'.cell? (ad.add (p * 4)) = some (.int .i64 y.month) ∧ w'.cell? ⟨G, 0, none⟩ = some (.int .i64 n1) ∧ w'.cell? ⟨G, 1, none⟩ = some (.int .i64 (accP sb)) ∧ w'.cell? ⟨G, 2, none⟩ = some (.int .i64 (accP sc)) ∧ w'.cell? ⟨G, 3, none⟩ = some (.int .i64 n2)) (by kernel_rfl) (HSM.out _ ⟨HB5d.out, HK5.out.drew⟩) (fun hHeld => ?_)
      refine wpAnyH_takeN 66 (i := 0) (oi := _) (v := .bool true) rfl (by kernel_rfl) (by kernel_rfl) (by kernel_rfl) (fun _ _ _ h => h) (Or.inl ⟨by kernel_rfl, ?_⟩) hHeld (by rfl) ?_
      · intro u hSu
        go_simp
        all_goals first | omega | (intro hh; omega) | exact IntWalk.i64_in _ (by omega)
      simp only [List.setIfInBounds_toArray, List.set_cons_succ, List.set_cons_zero]
      refine wpAnyH_takeN 67 (i := 1) (oi := _) (v := .bool false) rfl (by kernel_rfl) (by kernel_rfl) (by kernel_rfl) (fun _ _ _ h => h) (Or.inl ⟨by kernel_rfl, ?_⟩) hHeld (by rfl) ?_
      · intro u hSu
        go_simp
        all_goals first | omega | (intro hh; omega) | exact IntWalk.i64_in _ (by omega)
      simp only [List.setIfInBounds_toArray, List.set_cons_succ, List.set_cons_zero]
      refine wpAnyH_takeN 68 (i := 2) (oi := _) (v := .bool false) rfl (by kernel_rfl) (by kernel_rfl) (by kernel_rfl) (fun _ _ _ h => h) (Or.inl ⟨by kernel_rfl, ?_⟩) hHeld (by rfl) ?_
      · intro u hSu
        go_simp
        all_goals first | omega | (intro hh; omega) | exact IntWalk.i64_in _ (by omega)
      simp only [List.setIfInBounds_toArray, List.set_cons_succ, List.set_cons_zero]
      refine wpAnyH_takeN 69 (i := 3) (oi := _) (v := .bool true) rfl (by kernel_rfl) (by kernel_rfl) (by kernel_rfl) (fun _ _ _ h => h) (Or.inl ⟨by kernel_rfl, ?_⟩) hHeld (by rfl) ?_
      · intro u hSu
        go_simp
        all_goals first | omega | (intro hh; omega) | exact IntWalk.i64_in _ (by omega)
      simp only [List.setIfInBounds_toArray, List.set_cons_succ, List.set_cons_zero]
      refine wpAnyH_takeN 70 (i := 4) (oi := _) (v := .bool false) rfl (by kernel_rfl) (by kernel_rfl) (by kernel_rfl) (fun _ _ _ h => h) (Or.inl ⟨by kernel_rfl, ?_⟩) hHeld (by rfl) ?_
      · intro u hSu
        go_simp
        all_goals first | omega | (intro hh; omega) | exact IntWalk.i64_in _ (by omega)
      simp only [List.setIfInBounds_toArray, List.set_cons_succ, List.set_cons_zero]
      refine wpAnyH_takeN 71 (i := 5) (oi := _) (v := .bool false) rfl (by kernel_rfl) (by kernel_rfl) (by kernel_rfl) (fun _ _ _ h => h) (Or.inl ⟨by kernel_rfl, ?_⟩) hHeld (by rfl) ?_
      · intro u hSu
        go_simp
        all_goals first | omega | (intro hh; omega) | exact IntWalk.i64_in _ (by omega)
      simp only [List.setIfInBounds_toArray, List.set_cons_succ, List.set_cons_zero]
      refine wpAnyH_takeN 72 (i := 6) (oi := _) (v := .bool false) rfl (by kernel_rfl) (by kernel_rfl) (by kernel_rfl) (fun _ _ _ h => h) (Or.inl ⟨by kernel_rfl, ?_⟩) hHeld (by rfl) ?_
      · intro u hSu
        go_simp
        all_goals first | omega | (intro hh; omega) | exact IntWalk.i64_in _ (by omega)
      simp only [List.setIfInBounds_toArray, List.set_cons_succ, List.set_cons_zero]
      refine wpAnyH_takeN 73 (i := 7) (oi := _) (v := .agg #[.int .i64 n1, .int .i64 (accP sb), .int .i64 (accP sc), .int .i64 n2]) rfl (by kernel_rfl) (by kernel_rfl) (by kernel_rfl) (fun _ _ _ h => h) (Or.inl ⟨by kernel_rfl, ?_⟩) hHeld (by rfl) ?_
      · intro u hSu
        go_simp
        all_goals first | omega | (intro hh; omega) | exact IntWalk.i64_in _ (by omega)
      simp only [List.setIfInBounds_toArray, List.set_cons_succ, List.set_cons_zero]
      refine wpAnyH_ready (rs := [8]) (by kernel_rfl) (by simp) ?_
      refine AllReadyH.cons (o := _) rfl (fun K hK => ?_) AllReadyH.nil
      go_simp
      refine (HCE.out _).mono ?_
      rintro e w6 ⟨rfl, hb6⟩
      have HK6 := Lib.hid (HK5.out.drew.below' hb6)
      have HB6 := Lib.hid (HB5d.out.trans (hb6.mono HB5d.out.size))
      clear hb6
      refine hK.out _ _ ?_ (fun hHeld => ?_)
      · exact HSM.out _ ⟨HB6.out, HK6.out⟩
      clear hK K
      refine wpAnyH_takeN 75 (i := 9) (oi := _) (v := .bool false) rfl (by kernel_rfl) (by kernel_rfl) (by kernel_rfl) (fun _ _ _ h => h) (Or.inl ⟨by kernel_rfl, ?_⟩) hHeld (by rfl) ?_
      · intro u hSu
        go_simp
        all_goals first | omega | (intro hh; omega) | exact IntWalk.i64_in _ (by omega)
      simp only [List.setIfInBounds_toArray, List.set_cons_succ, List.set_cons_zero]
      refine wpAnyH_takeN 76 (i := 10) (oi := _) (v := .bool false) rfl (by kernel_rfl) (by kernel_rfl) (by kernel_rfl) (fun _ _ _ h => h) (Or.inl ⟨by kernel_rfl, ?_⟩) hHeld (by rfl) ?_
      · intro u hSu
        go_simp
        all_goals first | omega | (intro hh; omega) | exact IntWalk.i64_in _ (by omega)
      simp only [List.setIfInBounds_toArray, List.set_cons_succ, List.set_cons_zero]
      refine wpAnyH_takeN 77 (i := 11) (oi := _) (v := .bool false) rfl (by kernel_rfl) (by kernel_rfl) (by kernel_rfl) (fun _ _ _ h => h) (Or.inl ⟨by kernel_rfl, ?_⟩) hHeld (by rfl) ?_
      · intro u hSu
        go_simp
        all_goals first | omega | (intro hh; omega) | exact IntWalk.i64_in _ (by omega)
      simp only [List.setIfInBounds_toArray, List.set_cons_succ, List.set_cons_zero]
      refine wpAnyH_takeN 78 (i := 12) (oi := _) (v := .slice (some ad) (p + 1) cap) rfl (by kernel_rfl) (by kernel_rfl) (by kernel_rfl) (fun _ _ _ h => h) (Or.inl ⟨by kernel_rfl, ?_⟩) hHeld (by rfl) ?_
      · intro u hSu
        go_simp
        all_goals first | omega | (intro hh; omega) | exact IntWalk.i64_in _ (by omega)
      simp only [List.setIfInBounds_toArray, List.set_cons_succ, List.set_cons_zero]
      refine wpAnyH_takeN 79 (i := 13) (oi := _) (v := .int .i64 ((p : Int) + 1)) rfl (by kernel_rfl) (by kernel_rfl) (by kernel_rfl) (fun _ _ _ h => h) (Or.inl ⟨by kernel_rfl, ?_⟩) hHeld (by rfl) ?_
      · intro u hSu
        go_simp
        all_goals first | omega | (intro hh; omega) | exact IntWalk.i64_in _ (by omega)
      simp only [List.setIfInBounds_toArray, List.set_cons_succ, List.set_cons_zero]
      refine wpAnyH_takeN 80 (i := 14) (oi := _) (v := .bool true) rfl (by kernel_rfl) (by kernel_rfl) (by kernel_rfl) (fun _ _ _ h => h) (Or.inl ⟨by kernel_rfl, ?_⟩) hHeld (by rfl) ?_
      · intro u hSu
        go_simp
        all_goals first | omega | (intro hh; omega) | exact IntWalk.i64_in _ (by omega)
      simp only [List.setIfInBounds_toArray, List.set_cons_succ, List.set_cons_zero]
      refine wpAnyH_takeN 81 (i := 15) (oi := _) (v := .bool true) rfl (by kernel_rfl) (by kernel_rfl) (by kernel_rfl) (fun _ _ _ h => h) (Or.inl ⟨by kernel_rfl, ?_⟩) hHeld (by rfl) ?_
      · intro u hSu
        go_simp
        all_goals first | omega | (intro hh; omega) | exact IntWalk.i64_in _ (by omega)
      simp only [List.setIfInBounds_toArray, List.set_cons_succ, List.set_cons_zero]
      refine wpAnyH_takeN 82 (i := 16) (oi := _) (v := .pointer (some ⟨G, 0, none⟩)) rfl (by kernel_rfl) (by kernel_rfl) (by kernel_rfl) (fun _ _ _ h => h) (Or.inl ⟨by kernel_rfl, ?_⟩) hHeld (by rfl) ?_
      · intro u hSu
        go_simp
        all_goals first | omega | (intro hh; omega) | exact IntWalk.i64_in _ (by omega)
      simp only [List.setIfInBounds_toArray, List.set_cons_succ, List.set_cons_zero]
      refine wpAnyH_takeN 83 (i := 17) (oi := _) (v := .int .i64 n1) rfl (by kernel_rfl) (by kernel_rfl) (by kernel_rfl) (fun _ _ _ h => h) (Or.inl ⟨by kernel_rfl, ?_⟩) hHeld (by rfl) ?_
      · intro u hSu
        go_simp
        all_goals first | omega | (intro hh; omega) | exact IntWalk.i64_in _ (by omega)
      simp only [List.setIfInBounds_toArray, List.set_cons_succ, List.set_cons_zero]
      refine wpAnyH_takeN 84 (i := 18) (oi := _) (v := .slice (some ad) (p + 1) cap) rfl (by kernel_rfl) (by kernel_rfl) (by kernel_rfl) (fun _ _ _ h => h) (Or.inl ⟨by kernel_rfl, ?_⟩) hHeld (by rfl) ?_
      · intro u hSu
        go_simp
        all_goals first | omega | (intro hh; omega) | exact IntWalk.i64_in _ (by omega)
      simp only [List.setIfInBounds_toArray, List.set_cons_succ, List.set_cons_zero]
      refine wpAnyH_takeN 85 (i := 19) (oi := _) (v := .slice (some ad) (p + 1) cap) rfl (by kernel_rfl) (by kernel_rfl) (by kernel_rfl) (fun _ _ _ h => h) (Or.inl ⟨by kernel_rfl, ?_⟩) hHeld (by rfl) ?_
      · intro u hSu
        go_simp
        all_goals first | omega | (intro hh; omega) | exact IntWalk.i64_in _ (by omega)
      simp only [List.setIfInBounds_toArray, List.set_cons_succ, List.set_cons_zero]
      refine wpAnyH_takeN 86 (i := 20) (oi := _) (v := .int .i64 ((p : Int) + 1)) rfl (by kernel_rfl) (by kernel_rfl) (by kernel_rfl) (fun _ _ _ h => h) (Or.inl ⟨by kernel_rfl, ?_⟩) hHeld (by rfl) ?_
      · intro u hSu
        go_simp
        all_goals first | omega | (intro hh; omega) | exact IntWalk.i64_in _ (by omega)
      simp only [List.setIfInBounds_toArray, List.set_cons_succ, List.set_cons_zero]
      refine wpAnyH_takeN 87 (i := 21) (oi := _) (v := .int .i64 (p : Int)) rfl (by kernel_rfl) (by kernel_rfl) (by kernel_rfl) (fun _ _ _ h => h) (Or.inl ⟨by kernel_rfl, ?_⟩) hHeld (by rfl) ?_
      · intro u hSu
        go_simp
        all_goals first | omega | (intro hh; omega) | exact IntWalk.i64_in _ (by omega)
      simp only [List.setIfInBounds_toArray, List.set_cons_succ, List.set_cons_zero]
      refine wpAnyH_takeN 88 (i := 22) (oi := _) (v := .pointer (some (ad.add (p * 4)))) rfl (by kernel_rfl) (by kernel_rfl) (by kernel_rfl) (fun _ _ _ h => h) (Or.inl ⟨by kernel_rfl, ?_⟩) hHeld (by rfl) ?_
      · intro u hSu
        go_simp
        all_goals first | omega | (intro hh; omega) | exact IntWalk.i64_in _ (by omega)
      simp only [List.setIfInBounds_toArray, List.set_cons_succ, List.set_cons_zero]
      refine wpAnyH_takeN 89 (i := 23) (oi := _) (v := .pointer (some (ad.add (p * 4)))) rfl (by kernel_rfl) (by kernel_rfl) (by kernel_rfl) (fun _ _ _ h => h) (Or.inl ⟨by kernel_rfl, ?_⟩) hHeld (by rfl) ?_
      · intro u hSu
        go_simp
        all_goals first | omega | (intro hh; omega) | exact IntWalk.i64_in _ (by omega)
      simp only [List.setIfInBounds_toArray, List.set_cons_succ, List.set_cons_zero]
      refine wpAnyH_takeN 90 (i := 24) (oi := _) (v := .int .i64 y.month) rfl (by kernel_rfl) (by kernel_rfl) (by kernel_rfl) (fun _ _ _ h => h) (Or.inl ⟨by kernel_rfl, ?_⟩) hHeld (by rfl) ?_
      · intro u hSu
        go_simp
        all_goals first | omega | (intro hh; omega) | exact IntWalk.i64_in _ (by omega)
      simp only [List.setIfInBounds_toArray, List.set_cons_succ, List.set_cons_zero]
      refine wpAnyH_takeN 91 (i := 25) (oi := _) (v := .bool true) rfl (by kernel_rfl) (by kernel_rfl) (by kernel_rfl) (fun _ _ _ h => h) (Or.inl ⟨by kernel_rfl, ?_⟩) hHeld (by rfl) ?_
      · intro u hSu
        go_simp
        all_goals first | omega | (intro hh; omega) | exact IntWalk.i64_in _ (by omega)
      simp only [List.setIfInBounds_toArray, List.set_cons_succ, List.set_cons_zero]
      refine wpAnyH_takeN 92 (i := 26) (oi := _) (v := .bool true) rfl (by kernel_rfl) (by kernel_rfl) (by kernel_rfl) (fun _ _ _ h => h) (Or.inl ⟨by kernel_rfl, ?_⟩) hHeld (by rfl) ?_
      · intro u hSu
        go_simp
        all_goals first | omega | (intro hh; omega) | exact IntWalk.i64_in _ (by omega)
      simp only [List.setIfInBounds_toArray, List.set_cons_succ, List.set_cons_zero]
      refine wpAnyH_takeN 93 (i := 27) (oi := _) (v := .bool true) rfl (by kernel_rfl) (by kernel_rfl) (by kernel_rfl) (fun _ _ _ h => h) (Or.inl ⟨by kernel_rfl, ?_⟩) hHeld (by rfl) ?_
      · intro u hSu
        go_simp
        all_goals first | omega | (intro hh; omega) | exact IntWalk.i64_in _ (by omega)
      simp only [List.setIfInBounds_toArray, List.set_cons_succ, List.set_cons_zero]
      refine wpAnyH_done (by kernel_rfl) ?_ _
      have HBz := HB6
      go_wp2
      go_ret2
      exact HFIN.out HNO.out _ HBz.out
    · have HLT := Lib.hid (lateB_no (e := x) hy2 (by rw [HXM.out]; exact hlate))
      have hdl : decide (n1 < y.month) = false := by simpa using hlate
      have hxo := Lib.hid (entry_ok HBE.out)
      have hlt150 : out.length < 150 := by omega
      have HLG := Lib.hid (ledger_snoc HG.out hlt150 HBE.out HLT.out)
      have hcb2 := chk_bound c0 x
      obtain ⟨c1, hck⟩ : ∃ c1, chkP c0 x = c1 := ⟨_, rfl⟩
      have HCK := Lib.hid (fun X => spec_l22Check_any c0 x ⟨hc0, hc1⟩ hxo.out X)
      rw [hck] at hcb2 HCK
      have HLIN := Lib.hid (fun X => spec_l22Line_any x c1 hcb2 hxo.out X)
      rw [← HROW.out] at HCK HLIN
      obtain ⟨LN, hLN⟩ : ∃ LN, S (lineL x c1) = LN := ⟨_, rfl⟩
      rw [hLN] at HLIN
      have HNX := Lib.hid (fun (h : LN = sl) => (show NextE out c0 l x from ⟨hlt150, HBE.out, HLT.out, by rw [hck]; exact (S_inj ((hLN.trans h).trans HSL.out.symm)).symm⟩))
      have HNO := Lib.hid (fun (h : ¬ LN = sl) => (show ∀ e, ¬ NextE out c0 l e from fun e he => by
        have h1 := (HXL.out e he).1
        have h2 := he.2.2.2
        rw [← h1, hck] at h2
        exact h (by rw [← hLN, ← h2]; exact HSL.out)))
      have HGO := Lib.hid (fun (h : NextE out c0 l x) => (show recL ls [] 0 = recL (ls.drop (k + 1)) (out ++ [x]) c1 from by
        rw [HC.out, ← hck]
        exact recL_go Hl.out h (fun y hy => (HXL.out y hy).1)))
      clear hck hLN
      go_wp2_with fail
      refine wp_region_held_drew (S := fun w' => Below wr.heap.size wr w' ∧ w'.cell? (ad.add (p * 4)) = some (.int .i64 y.month) ∧ w'.cell? ⟨G, 0, none⟩ = some (.int .i64 n1) ∧ w'.cell? ⟨G, 1, none⟩ = some (.int .i64 (accP sb)) ∧ w'.cell? ⟨G, 2, none⟩ = some (.int .i64 (accP sc)) ∧ w'.cell? ⟨G, 3, none⟩ = some (.int .i64 n2)) (by kernel_rfl) (HSM.out _ ⟨HB5d.out, HK5.out.drew⟩) (fun hHeld => ?_)
      refine wpAnyH_takeN 66 (i := 0) (oi := _) (v := .bool true) rfl (by kernel_rfl) (by kernel_rfl) (by kernel_rfl) (fun _ _ _ h => h) (Or.inl ⟨by kernel_rfl, ?_⟩) hHeld (by rfl) ?_
      · intro u hSu
        go_simp
        all_goals first | omega | (intro hh; omega) | exact IntWalk.i64_in _ (by omega)
      simp only [List.setIfInBounds_toArray, List.set_cons_succ, List.set_cons_zero]
      refine wpAnyH_takeN 67 (i := 1) (oi := _) (v := .bool false) rfl (by kernel_rfl) (by kernel_rfl) (by kernel_rfl) (fun _ _ _ h => h) (Or.inl ⟨by kernel_rfl, ?_⟩) hHeld (by rfl) ?_
      · intro u hSu
        go_simp
        all_goals first | omega | (intro hh; omega) | exact IntWalk.i64_in _ (by omega)
      simp only [List.setIfInBounds_toArray, List.set_cons_succ, List.set_cons_zero]
      refine wpAnyH_takeN 68 (i := 2) (oi := _) (v := .bool false) rfl (by kernel_rfl) (by kernel_rfl) (by kernel_rfl) (fun _ _ _ h => h) (Or.inl ⟨by kernel_rfl, ?_⟩) hHeld (by rfl) ?_
      · intro u hSu
        go_simp
        all_goals first | omega | (intro hh; omega) | exact IntWalk.i64_in _ (by omega)
      simp only [List.setIfInBounds_toArray, List.set_cons_succ, List.set_cons_zero]
      refine wpAnyH_takeN 69 (i := 3) (oi := _) (v := .bool true) rfl (by kernel_rfl) (by kernel_rfl) (by kernel_rfl) (fun _ _ _ h => h) (Or.inl ⟨by kernel_rfl, ?_⟩) hHeld (by rfl) ?_
      · intro u hSu
        go_simp
        all_goals first | omega | (intro hh; omega) | exact IntWalk.i64_in _ (by omega)
      simp only [List.setIfInBounds_toArray, List.set_cons_succ, List.set_cons_zero]
      refine wpAnyH_takeN 70 (i := 4) (oi := _) (v := .bool false) rfl (by kernel_rfl) (by kernel_rfl) (by kernel_rfl) (fun _ _ _ h => h) (Or.inl ⟨by kernel_rfl, ?_⟩) hHeld (by rfl) ?_
      · intro u hSu
        go_simp
        all_goals first | omega | (intro hh; omega) | exact IntWalk.i64_in _ (by omega)
      simp only [List.setIfInBounds_toArray, List.set_cons_succ, List.set_cons_zero]
      refine wpAnyH_takeN 71 (i := 5) (oi := _) (v := .bool false) rfl (by kernel_rfl) (by kernel_rfl) (by kernel_rfl) (fun _ _ _ h => h) (Or.inl ⟨by kernel_rfl, ?_⟩) hHeld (by rfl) ?_
      · intro u hSu
        go_simp
        all_goals first | omega | (intro hh; omega) | exact IntWalk.i64_in _ (by omega)
      simp only [List.setIfInBounds_toArray, List.set_cons_succ, List.set_cons_zero]
      refine wpAnyH_takeN 72 (i := 6) (oi := _) (v := .bool false) rfl (by kernel_rfl) (by kernel_rfl) (by kernel_rfl) (fun _ _ _ h => h) (Or.inl ⟨by kernel_rfl, ?_⟩) hHeld (by rfl) ?_
      · intro u hSu
        go_simp
        all_goals first | omega | (intro hh; omega) | exact IntWalk.i64_in _ (by omega)
      simp only [List.setIfInBounds_toArray, List.set_cons_succ, List.set_cons_zero]
      refine wpAnyH_takeN 73 (i := 7) (oi := _) (v := .agg #[.int .i64 n1, .int .i64 (accP sb), .int .i64 (accP sc), .int .i64 n2]) rfl (by kernel_rfl) (by kernel_rfl) (by kernel_rfl) (fun _ _ _ h => h) (Or.inl ⟨by kernel_rfl, ?_⟩) hHeld (by rfl) ?_
      · intro u hSu
        go_simp
        all_goals first | omega | (intro hh; omega) | exact IntWalk.i64_in _ (by omega)
      simp only [List.setIfInBounds_toArray, List.set_cons_succ, List.set_cons_zero]
      refine wpAnyH_ready (rs := [8]) (by kernel_rfl) (by simp) ?_
      refine AllReadyH.cons (o := _) rfl (fun K hK => ?_) AllReadyH.nil
      go_simp
      refine (HCE.out _).mono ?_
      rintro e w6 ⟨rfl, hb6⟩
      have HK6 := Lib.hid (HK5.out.drew.below' hb6)
      have HB6 := Lib.hid (HB5d.out.trans (hb6.mono HB5d.out.size))
      clear hb6
      refine hK.out _ _ ?_ (fun hHeld => ?_)
      · exact HSM.out _ ⟨HB6.out, HK6.out⟩
      clear hK K
      refine wpAnyH_takeN 75 (i := 9) (oi := _) (v := .bool false) rfl (by kernel_rfl) (by kernel_rfl) (by kernel_rfl) (fun _ _ _ h => h) (Or.inl ⟨by kernel_rfl, ?_⟩) hHeld (by rfl) ?_
      · intro u hSu
        go_simp
        all_goals first | omega | (intro hh; omega) | exact IntWalk.i64_in _ (by omega)
      simp only [List.setIfInBounds_toArray, List.set_cons_succ, List.set_cons_zero]
      refine wpAnyH_takeN 76 (i := 10) (oi := _) (v := .bool false) rfl (by kernel_rfl) (by kernel_rfl) (by kernel_rfl) (fun _ _ _ h => h) (Or.inl ⟨by kernel_rfl, ?_⟩) hHeld (by rfl) ?_
      · intro u hSu
        go_simp
        all_goals first | omega | (intro hh; omega) | exact IntWalk.i64_in _ (by omega)
      simp only [List.setIfInBounds_toArray, List.set_cons_succ, List.set_cons_zero]
      refine wpAnyH_takeN 77 (i := 11) (oi := _) (v := .bool false) rfl (by kernel_rfl) (by kernel_rfl) (by kernel_rfl) (fun _ _ _ h => h) (Or.inl ⟨by kernel_rfl, ?_⟩) hHeld (by rfl) ?_
      · intro u hSu
        go_simp
        all_goals first | omega | (intro hh; omega) | exact IntWalk.i64_in _ (by omega)
      simp only [List.setIfInBounds_toArray, List.set_cons_succ, List.set_cons_zero]
      refine wpAnyH_takeN 78 (i := 12) (oi := _) (v := .slice (some ad) (p + 1) cap) rfl (by kernel_rfl) (by kernel_rfl) (by kernel_rfl) (fun _ _ _ h => h) (Or.inl ⟨by kernel_rfl, ?_⟩) hHeld (by rfl) ?_
      · intro u hSu
        go_simp
        all_goals first | omega | (intro hh; omega) | exact IntWalk.i64_in _ (by omega)
      simp only [List.setIfInBounds_toArray, List.set_cons_succ, List.set_cons_zero]
      refine wpAnyH_takeN 79 (i := 13) (oi := _) (v := .int .i64 ((p : Int) + 1)) rfl (by kernel_rfl) (by kernel_rfl) (by kernel_rfl) (fun _ _ _ h => h) (Or.inl ⟨by kernel_rfl, ?_⟩) hHeld (by rfl) ?_
      · intro u hSu
        go_simp
        all_goals first | omega | (intro hh; omega) | exact IntWalk.i64_in _ (by omega)
      simp only [List.setIfInBounds_toArray, List.set_cons_succ, List.set_cons_zero]
      refine wpAnyH_takeN 80 (i := 14) (oi := _) (v := .bool true) rfl (by kernel_rfl) (by kernel_rfl) (by kernel_rfl) (fun _ _ _ h => h) (Or.inl ⟨by kernel_rfl, ?_⟩) hHeld (by rfl) ?_
      · intro u hSu
        go_simp
        all_goals first | omega | (intro hh; omega) | exact IntWalk.i64_in _ (by omega)
      simp only [List.setIfInBounds_toArray, List.set_cons_succ, List.set_cons_zero]
      refine wpAnyH_takeN 81 (i := 15) (oi := _) (v := .bool true) rfl (by kernel_rfl) (by kernel_rfl) (by kernel_rfl) (fun _ _ _ h => h) (Or.inl ⟨by kernel_rfl, ?_⟩) hHeld (by rfl) ?_
      · intro u hSu
        go_simp
        all_goals first | omega | (intro hh; omega) | exact IntWalk.i64_in _ (by omega)
      simp only [List.setIfInBounds_toArray, List.set_cons_succ, List.set_cons_zero]
      refine wpAnyH_takeN 82 (i := 16) (oi := _) (v := .pointer (some ⟨G, 0, none⟩)) rfl (by kernel_rfl) (by kernel_rfl) (by kernel_rfl) (fun _ _ _ h => h) (Or.inl ⟨by kernel_rfl, ?_⟩) hHeld (by rfl) ?_
      · intro u hSu
        go_simp
        all_goals first | omega | (intro hh; omega) | exact IntWalk.i64_in _ (by omega)
      simp only [List.setIfInBounds_toArray, List.set_cons_succ, List.set_cons_zero]
      refine wpAnyH_takeN 83 (i := 17) (oi := _) (v := .int .i64 n1) rfl (by kernel_rfl) (by kernel_rfl) (by kernel_rfl) (fun _ _ _ h => h) (Or.inl ⟨by kernel_rfl, ?_⟩) hHeld (by rfl) ?_
      · intro u hSu
        go_simp
        all_goals first | omega | (intro hh; omega) | exact IntWalk.i64_in _ (by omega)
      simp only [List.setIfInBounds_toArray, List.set_cons_succ, List.set_cons_zero]
      refine wpAnyH_takeN 84 (i := 18) (oi := _) (v := .slice (some ad) (p + 1) cap) rfl (by kernel_rfl) (by kernel_rfl) (by kernel_rfl) (fun _ _ _ h => h) (Or.inl ⟨by kernel_rfl, ?_⟩) hHeld (by rfl) ?_
      · intro u hSu
        go_simp
        all_goals first | omega | (intro hh; omega) | exact IntWalk.i64_in _ (by omega)
      simp only [List.setIfInBounds_toArray, List.set_cons_succ, List.set_cons_zero]
      refine wpAnyH_takeN 85 (i := 19) (oi := _) (v := .slice (some ad) (p + 1) cap) rfl (by kernel_rfl) (by kernel_rfl) (by kernel_rfl) (fun _ _ _ h => h) (Or.inl ⟨by kernel_rfl, ?_⟩) hHeld (by rfl) ?_
      · intro u hSu
        go_simp
        all_goals first | omega | (intro hh; omega) | exact IntWalk.i64_in _ (by omega)
      simp only [List.setIfInBounds_toArray, List.set_cons_succ, List.set_cons_zero]
      refine wpAnyH_takeN 86 (i := 20) (oi := _) (v := .int .i64 ((p : Int) + 1)) rfl (by kernel_rfl) (by kernel_rfl) (by kernel_rfl) (fun _ _ _ h => h) (Or.inl ⟨by kernel_rfl, ?_⟩) hHeld (by rfl) ?_
      · intro u hSu
        go_simp
        all_goals first | omega | (intro hh; omega) | exact IntWalk.i64_in _ (by omega)
      simp only [List.setIfInBounds_toArray, List.set_cons_succ, List.set_cons_zero]
      refine wpAnyH_takeN 87 (i := 21) (oi := _) (v := .int .i64 (p : Int)) rfl (by kernel_rfl) (by kernel_rfl) (by kernel_rfl) (fun _ _ _ h => h) (Or.inl ⟨by kernel_rfl, ?_⟩) hHeld (by rfl) ?_
      · intro u hSu
        go_simp
        all_goals first | omega | (intro hh; omega) | exact IntWalk.i64_in _ (by omega)
      simp only [List.setIfInBounds_toArray, List.set_cons_succ, List.set_cons_zero]
      refine wpAnyH_takeN 88 (i := 22) (oi := _) (v := .pointer (some (ad.add (p * 4)))) rfl (by kernel_rfl) (by kernel_rfl) (by kernel_rfl) (fun _ _ _ h => h) (Or.inl ⟨by kernel_rfl, ?_⟩) hHeld (by rfl) ?_
      · intro u hSu
        go_simp
        all_goals first | omega | (intro hh; omega) | exact IntWalk.i64_in _ (by omega)
      simp only [List.setIfInBounds_toArray, List.set_cons_succ, List.set_cons_zero]
      refine wpAnyH_takeN 89 (i := 23) (oi := _) (v := .pointer (some (ad.add (p * 4)))) rfl (by kernel_rfl) (by kernel_rfl) (by kernel_rfl) (fun _ _ _ h => h) (Or.inl ⟨by kernel_rfl, ?_⟩) hHeld (by rfl) ?_
      · intro u hSu
        go_simp
        all_goals first | omega | (intro hh; omega) | exact IntWalk.i64_in _ (by omega)
      simp only [List.setIfInBounds_toArray, List.set_cons_succ, List.set_cons_zero]
      refine wpAnyH_takeN 90 (i := 24) (oi := _) (v := .int .i64 y.month) rfl (by kernel_rfl) (by kernel_rfl) (by kernel_rfl) (fun _ _ _ h => h) (Or.inl ⟨by kernel_rfl, ?_⟩) hHeld (by rfl) ?_
      · intro u hSu
        go_simp
        all_goals first | omega | (intro hh; omega) | exact IntWalk.i64_in _ (by omega)
      simp only [List.setIfInBounds_toArray, List.set_cons_succ, List.set_cons_zero]
      refine wpAnyH_takeN 91 (i := 25) (oi := _) (v := .bool false) rfl (by kernel_rfl) (by kernel_rfl) (by kernel_rfl) (fun _ _ _ h => h) (Or.inl ⟨by kernel_rfl, ?_⟩) hHeld (by rfl) ?_
      · intro u hSu
        go_simp
        all_goals first | omega | (intro hh; omega) | exact IntWalk.i64_in _ (by omega)
      simp only [List.setIfInBounds_toArray, List.set_cons_succ, List.set_cons_zero]
      refine wpAnyH_takeN 92 (i := 26) (oi := _) (v := .bool false) rfl (by kernel_rfl) (by kernel_rfl) (by kernel_rfl) (fun _ _ _ h => h) (Or.inl ⟨by kernel_rfl, ?_⟩) hHeld (by rfl) ?_
      · intro u hSu
        go_simp
        all_goals first | omega | (intro hh; omega) | exact IntWalk.i64_in _ (by omega)
      simp only [List.setIfInBounds_toArray, List.set_cons_succ, List.set_cons_zero]
      refine wpAnyH_takeN 93 (i := 27) (oi := _) (v := .bool false) rfl (by kernel_rfl) (by kernel_rfl) (by kernel_rfl) (fun _ _ _ h => h) (Or.inl ⟨by kernel_rfl, ?_⟩) hHeld (by rfl) ?_
      · intro u hSu
        go_simp
        all_goals first | omega | (intro hh; omega) | exact IntWalk.i64_in _ (by omega)
      simp only [List.setIfInBounds_toArray, List.set_cons_succ, List.set_cons_zero]
      refine wpAnyH_done (by kernel_rfl) ?_ _
      all_goals
        obtain ⟨k0, k1, k2, k3⟩ := HS4.out _ HK6.out
        go_wp2_with fail
        refine (HCK.out _).mono ?_
        rintro e w7 ⟨rfl, hb7⟩
        have HK7 := Lib.hid (HK6.out.below' hb7)
        have HB7 := Lib.hid (HB6.out.trans (hb7.mono HB6.out.size))
        have HR7 := Lib.hid (HR.out.past HB7.out)
        clear k0 k1 k2 k3 hb7 HK6 HB6
        have HL7 := Lib.hid ((HB7.out.cell (block_lt_of_cell cl)).trans cl)
        have HS7 := Lib.hid (show ∀ w', Below w7.heap.size w7 w' → Below w7.heap.size w7 w' ∧ w'.cell? ⟨gw, k, none⟩ = some (.string sl) ∧ w'.cell? ⟨G, 0, none⟩ = some (.int .i64 n1) ∧ w'.cell? ⟨G, 1, none⟩ = some (.int .i64 (accP sb)) ∧ w'.cell? ⟨G, 2, none⟩ = some (.int .i64 (accP sc)) ∧ w'.cell? ⟨G, 3, none⟩ = some (.int .i64 n2) from fun w' q => ⟨q, (q.cell (block_lt_of_cell HL7.out)).trans HL7.out, HS4.out _ (HK7.out.below' q)⟩)
        have HD7 := Lib.hid ((Below.refl w7.heap.size w7).drew)
        have hkr : (k : Int) < (n : Int) + 1 := by omega
        have hkr2 : ¬ (n : Int) + 1 ≤ (k : Int) := by omega
        by_cases hq : LN = sl
        · have hql := str_eq hq
          have HREC := Lib.hid (HGO.out (HNX.out hq))
          clear hq HNX HNO HGO
          go_wp2
          go_region_held3 (fun w' => Below w7.heap.size w7 w' ∧ w'.cell? ⟨gw, k, none⟩ = some (.string sl) ∧ w'.cell? ⟨G, 0, none⟩ = some (.int .i64 n1) ∧ w'.cell? ⟨G, 1, none⟩ = some (.int .i64 (accP sb)) ∧ w'.cell? ⟨G, 2, none⟩ = some (.int .i64 (accP sc)) ∧ w'.cell? ⟨G, 3, none⟩ = some (.int .i64 n2)) (first | exact HS7.out _ hcc8 | exact HS7.out _ HD7.out) (first | (go_at_call 61; refine (HLIN.out _).mono ?_; rintro e w8 ⟨rfl, hb8⟩; have hcc8 := HD7.out.trans (hb8.mono HD7.out.size)))
          all_goals
            have HB8 := Lib.hid (HB7.out.trans (hcc8.mono HB7.out.size))
            have HR8 := Lib.hid (HR7.out.past hcc8)
            obtain ⟨_, _, k0, k1, k2, k3⟩ := HS7.out _ hcc8
            have hwr : w1.heap.size ≤ wr.heap.size := Nat.le_trans hwW HB.out.size
            have HBW8 := Lib.hid (HB.out.trans (HB8.out.mono hwr))
            have hw8 : w1.heap.size ≤ w8.heap.size := Nat.le_trans hwr HB8.out.size
            clear hcc8
            go_wp2_with (at_builtin; refine wpList_append_row_at _ rfl _ _ _ rfl w1.heap.size 78 i0 _ 4 32 Tryz.underlying22 HI.out.1 HI.out.2.1 HI.out.2.2.1 HI.out.2.2.2 rfl (by decide) (by decide) (some ad) (p + 1) cap _ rfl HR8.out [.int .i64 n1, .int .i64 (accP sb), .int .i64 (accP sc), .int .i64 n2] _ rfl rfl (by simp [Value.oneCell']) (by omega) hw8 ?_; intro A9 c9 w9 hR9 hb9 _ _)
            rw [show entryRows out ++ [[Value.int .i64 n1, .int .i64 (accP sb), .int .i64 (accP sc), .int .i64 n2]] = entryRows (out ++ [x]) by rw [entryRows_snoc, HX.out]; rfl] at hR9
            have HR9 := Lib.hid hR9
            have HB9 := Lib.hid (HBW8.out.trans hb9)
            clear hR9 hb9
            go_wp2
            go_roundw
            case rel => exact ⟨k + 1, _, c9, A9, out ++ [x], c1, by omega, by go_num, rfl, rfl, by rw [List.length_append, hq, List.length_singleton], by omega, hcb2, HR9, HLG, HREC, HB9⟩
            case measure => simp [intOf]; omega
        · have hql := str_ne hq
          have HNE := Lib.hid (HNO.out hq)
          clear hq HNX HNO HGO
          go_wp2
          go_region_held3 (fun w' => Below w7.heap.size w7 w' ∧ w'.cell? ⟨gw, k, none⟩ = some (.string sl) ∧ w'.cell? ⟨G, 0, none⟩ = some (.int .i64 n1) ∧ w'.cell? ⟨G, 1, none⟩ = some (.int .i64 (accP sb)) ∧ w'.cell? ⟨G, 2, none⟩ = some (.int .i64 (accP sc)) ∧ w'.cell? ⟨G, 3, none⟩ = some (.int .i64 n2)) (first | exact HS7.out _ hcc8 | exact HS7.out _ HD7.out) (first | (go_at_call 61; refine (HLIN.out _).mono ?_; rintro e w8 ⟨rfl, hb8⟩; have hcc8 := HD7.out.trans (hb8.mono HD7.out.size)))
          all_goals
            have HB8 := Lib.hid (HB7.out.trans (hcc8.mono HB7.out.size))
            clear hcc8
            go_wp2
            go_ret2
            exact HFIN.out HNE.out _ HB8.out
end Go.Proofs.YtlbllonpodckgaaGreatDoor
