/- A ladder of bonds: the program's contract. No condition but the lengths. -/
import Derived.Test.YtlbllonpodckgaaLadderJ
import Derived.Test.YtlbllonpodckgaaLadderV
import Derived.Test.YtlbllonpodckgaaLadder
import Derived.Test.YtlbllonpodckgaaApp
namespace Go.Proofs.Ytlbllonpodckgaa
open Go.RowKit Go.Shelf Go.BigFrame
attribute [local go_sem] Oper.semAt_some

set_option maxRecDepth 100000 in
set_option maxHeartbeats 4000000 in
theorem buildLadder_good (A : Option Addr) (n cap : Nat) (ys : List Int) (c : Int) (w : World) (hl : ys.length = n) (hn : n ≤ 30) (hY : Rd w w.heap.size A 1 (intRows ys)) (h1 : needsB ys = true) (h3 : inR c 0 200 = true) :
    Calls Try.prog 14 #[.slice A n cap, .int .i64 c] w fun e w' => ∃ A' n' c', e = .returned (.tuple #[.slice A' n' c', .int .i64 0]) ∧ Res w.heap.size w' 66 3 A' n' c' (bondRows (ladS c ys n).1) ∧ Below w.heap.size w w' := by
  have HY := Lib.hid hY; clear hY
  have HL := Lib.hid hl; clear hl
  have hni : (n : Int) ≤ 30 := by omega
  have HAI := Lib.hid (show allR ys 0 1000000000 = true by simp only [needsB, Bool.and_eq_true] at h1; exact h1.2)
  refine (callsIn_wide (n := 3)).1 ?_
  refine callsIn_of_wp_marks Try.func14 rfl trivial ?_ rfl
  simp only [Try.ntmps14, List.size_toArray, List.length_cons, List.length_nil, Nat.reduceAdd, Nat.reduceSub, Array.replicate_succ, Array.replicate_zero, List.push_toArray, List.append_toArray, List.nil_append, List.cons_append]
  have HB0 := Lib.hid (show Below w.heap.size w (w.alloc (.cells #[.int .i64 c] 2)) from (Below.refl _ w).alloc (Nat.le_refl _) _)
  have HC0 := Lib.hid (Blk.new w 2 #[.int .i64 c])
  gi_wp2_with (first | (refine ⟨trivial, ?_⟩; gi_at_call 37; refine (callsIn_wide.2 (impl_allIn_any A n cap ys 0 1000000000 _ HL.out (by omega) ((HY.out.below HB0.out).more HB0.out.size))).mono ?_; rw [HAI.out]; rintro e w1 ⟨rfl, hb1⟩; have HC1 := Lib.hid (HC0.out.below' hb1); have HB1 := Lib.hid (HB0.out.trans (hb1.mono HB0.out.size)); clear hb1; have c0 : w1.cell? ⟨w.heap.size, 0, none⟩ = some (.int .i64 c) := HC1.out.cell 0) | (refine ⟨trivial, ?_⟩; gi_at_call 38; refine (callsIn_wide.2 (impl_inRange_any _ _ _ _)).mono ?_; rw [h3]; rintro e w' ⟨rfl, rfl⟩) | (refine ⟨trivial, ?_⟩; gi_at_call 39; refine (backward_in Fence.wide _ trivial rfl _ _ _ _).mono ?_; rintro e w' ⟨rfl, rfl⟩))
  have hsz1 : w.heap.size < w1.heap.size := HC1.out.lt
  obtain ⟨c1, c2⟩ := inR_true.1 h3
  have HND := Lib.hid (fun k => (show 0 ≤ ndV ys k ∧ ndV ys k ≤ 1000000000 from need_bound (by
    have h := h1
    simp only [needsB, Bool.and_eq_true, decide_eq_true_eq, allR, List.all_eq_true] at h
    exact fun y hy => inR_true.1 (h.2 y hy)) k))
  obtain ⟨i0, hi0, hz0, hz1, hz2⟩ := info_parts Bond.info
  have HI := Lib.hid (And.intro hi0 (And.intro hz0 (And.intro hz1 hz2))); clear hi0 hz0 hz1 hz2
  have HB2 := Lib.hid (show Below w.heap.size w ((((w1.alloc (.cells #[] 66)).alloc (.cells #[.slice (some ⟨w1.heap.size, 0, none⟩) 0 0] 34)).alloc (.cells #[.int .i64 0] 2)).alloc (.cells #[.slice A n cap] 33)) from
    (((HB1.out.alloc HB1.out.size _).alloc (by simp; omega) _).alloc (by simp; omega) _).alloc (by simp; omega) _)
  have HI0 := Lib.hid (show LadI w.heap.size (w1.heap.size + 1) (w1.heap.size + 1 + 1) (w1.heap.size + 1 + 1 + 1) A n cap c w (ladF c ys []) ((((w1.alloc (.cells #[] 66)).alloc (.cells #[.slice (some ⟨w1.heap.size, 0, none⟩) 0 0] 34)).alloc (.cells #[.int .i64 0] 2)).alloc (.cells #[.slice A n cap] 33)) from by
    refine ⟨⟨some ⟨w1.heap.size, 0, none⟩, 0, 0, ?_, ?_⟩, ?_, ?_, ?_⟩
    · have h := ((Blk.new (w1.alloc (.cells #[] 66)) 34 #[.slice (some ⟨w1.heap.size, 0, none⟩) 0 0]).alloc (.cells #[.int .i64 0] 2)).alloc (.cells #[.slice A n cap] 33)
      simpa using h
    · have h0 := Res.zero w1 w.heap.size 66 3 (Nat.le_of_lt hsz1)
      have hb : Below (w1.alloc (.cells #[] 66)).heap.size (w1.alloc (.cells #[] 66)) ((((w1.alloc (.cells #[] 66)).alloc (.cells #[.slice (some ⟨w1.heap.size, 0, none⟩) 0 0] 34)).alloc (.cells #[.int .i64 0] 2)).alloc (.cells #[.slice A n cap] 33)) :=
        (((Below.refl _ _).alloc (Nat.le_refl _) _).alloc (by simp) _).alloc (by simp) _
      exact h0.past hb
    · have h := (Blk.new ((w1.alloc (.cells #[] 66)).alloc (.cells #[.slice (some ⟨w1.heap.size, 0, none⟩) 0 0] 34)) 2 #[.int .i64 0]).alloc (.cells #[.slice A n cap] 33)
      simpa [ladF_nil] using h
    · exact (((HC1.out.alloc _).alloc _).alloc _).alloc _
    · have h := Blk.new (((w1.alloc (.cells #[] 66)).alloc (.cells #[.slice (some ⟨w1.heap.size, 0, none⟩) 0 0] 34)).alloc (.cells #[.int .i64 0] 2)) 33 #[.slice A n cap]
      simpa using h)
  have hszW : ((((w1.alloc (.cells #[] 66)).alloc (.cells #[.slice (some ⟨w1.heap.size, 0, none⟩) 0 0] 34)).alloc (.cells #[.int .i64 0] 2)).alloc (.cells #[.slice A n cap] 33)).heap.size = w1.heap.size + 1 + 1 + 1 + 1 := by simp
  generalize hgi : w1.heap.size + 1 + 1 + 1 = gi at HI0 hszW ⊢
  generalize hgl : w1.heap.size + 1 + 1 = gl at HI0 ⊢
  generalize hgo : w1.heap.size + 1 = go at HI0 ⊢
  generalize (((w1.alloc (.cells #[] 66)).alloc (.cells #[.slice (some ⟨w1.heap.size, 0, none⟩) 0 0] 34)).alloc (.cells #[.int .i64 0] 2)).alloc (.cells #[.slice A n cap] 33) = W0 at HB2 HI0 hszW ⊢
  have hszw : w.heap.size ≤ W0.heap.size := by omega
  have hgi0 : gi < W0.heap.size := by omega
  have hn20 : n ≤ 1048576 := by omega
  refine wpIn_rangeFunc_ownG rfl (by omega) (gf := 65) (lb := #[.pointer (some ⟨gi, 0, none⟩)]) rfl trivial (enters_of Try.func65 (by kernel_rfl) rfl)
    (backward_stops Fence.wide _ trivial rfl (by omega) gi w.heap.size A n cap ys HL.out hn20 W0 hszw HI0.out.2.2.2 (HY.out.below HB2.out)) (fun h k => KpB.trans h k) (fun W l o o' h1 h2 h3 h4 => KpB.put hszw hgi0 W l o o' h1 h2 h3 h4) (Below.refl _ _) (fun _ => rfl)
    (fun pre W => LadI w.heap.size go gl gi A n cap c w (ladF c ys pre) W ∧ Below w.heap.size w W)
    (fun _ _ _ => False)
    (OwnFrom.and (Own.from LadI.own _) (ownFrom_below (Nat.le_refl _) hszw))
    (fun _ _ _ _ _ hs _ _ => hs)
    ⟨HI0.out, HB2.out⟩
    (fun x => { tmps := #[Value.slice A n cap, Value.int IntKind.i64 c, undef, Value.pointer (some { block := w.heap.size, off := 0 }), Value.slice none 0 0, Value.int IntKind.i64 0, Value.pointer (some { block := go, off := 0 }), Value.pointer (some { block := gl, off := 0 }), Value.int IntKind.i64 (x.1 : Int), Value.int IntKind.i64 (ndV ys x.1), undef, Value.slice A n cap, Value.int IntKind.i64 (n : Int), Value.bool (decide ((30 : Int) < (n : Int))), Value.bool (decide ((30 : Int) < (n : Int))), Value.slice A n cap, Value.bool true, Value.bool false, Value.bool (decide ((30 : Int) < (n : Int))), Value.bool (decide ((30 : Int) < (n : Int))), Value.int IntKind.i64 c, Value.bool true, Value.bool false, Value.bool (decide ((30 : Int) < (n : Int))), Value.slice (some { block := w1.heap.size, off := 0 }) 0 0, Value.slice A n cap, Value.func (Fn.func 65) #[] #[Value.pointer (some { block := gi, off := 0 })], Value.int IntKind.i64 (x.1 : Int), Value.int IntKind.i64 (ndV ys x.1), undef, undef, undef, undef, undef, undef, undef, undef, undef, undef, undef, undef, undef, undef, undef, undef, undef, undef, undef, undef, undef, undef, undef], defers := [] }) ?assign ?body ?done ?stop
  case assign =>
    intro l x W K hK
    gi_wp2
    exact hK
  case body =>
    rintro l pre ⟨k, hk⟩ W ⟨⟨⟨A', m, c', hGo, hR⟩, hGl, hGc, hGi⟩, hB⟩ hlt
    obtain ⟨⟨sb1, sb2⟩, sb3⟩ := ladF_bound (c := c) (ys := ys) ⟨c1, c2⟩ HND.out pre
    have HHit := Lib.hid (fun h => ladF_hit (c := c) (ys := ys) (pre := pre) (k := ⟨k, hk⟩) h)
    have HMiss := Lib.hid (fun h => ladF_miss (c := c) (ys := ys) (pre := pre) (k := ⟨k, hk⟩) h)
    have hvb := HND.out k
    obtain ⟨S, hS⟩ : ∃ S, ladF c ys pre = S := ⟨_, rfl⟩
    obtain ⟨v, hv⟩ : ∃ v, ndV ys k = v := ⟨_, rfl⟩
    dsimp only at HHit HMiss ⊢
    rw [hS] at sb1 sb2 sb3 hR hGl HHit HMiss
    rw [hv] at hvb HHit HMiss ⊢
    obtain ⟨v1, v2⟩ := hvb
    have hmm : m ≤ 30 := by have h := hR.len; rw [bondRows_length] at h; omega
    have hs200 : S.2 ≤ 6000000000 := by omega
    obtain ⟨q, hq⟩ : ∃ q, nomP (v - S.2) c = q := ⟨_, rfl⟩
    have n0 := nom_nonneg (v - S.2) c
    have n1 := nom_bound (a := v - S.2) ⟨c1, c2⟩ (by omega)
    have HLN := Lib.hid (fun w' => (show Calls Try.prog 40 #[.int .i64 (v - S.2), .int .i64 c] w' fun e w2 => e = .returned (.int .i64 q) ∧ w' = w2 from by
      have h := impl_leastNominal_any (v - S.2) c w' ⟨c1, c2⟩ ⟨by omega, by omega⟩
      rw [hq] at h; exact h))
    rw [hq] at n0 n1 HHit HMiss
    have k0 : W.cell? ⟨go, 0, none⟩ = some (.slice A' m c') := hGo.cell 0
    have k1 : W.cell? ⟨gl, 0, none⟩ = some (.int .i64 S.2) := hGl.cell 0
    have k2 : W.cell? ⟨w.heap.size, 0, none⟩ = some (.int .i64 c) := hGc.cell 0
    have HR := Lib.hid hR; clear hR
    have HG := Lib.hid (And.intro hGo (And.intro hGl (And.intro hGc hGi))); clear hGo hGl hGc hGi
    have HBb := Lib.hid hB; clear hB
    by_cases hp : 0 < q
    · have HST := Lib.hid (HHit.out hp)
      obtain ⟨⟨p1, p2⟩, p3, p4⟩ := coupon_bound (n := q) ⟨c1, c2⟩ ⟨by omega, by omega⟩
      have hwW := HBb.out.size
      have hmx : Try.prog.follows .mixedOrders = true := by kernel_rfl
      have hd1 : 1 ≤ 3 - 1 - 1 := by omega
      have e1 : go ≠ gl := by omega
      have e2 : gl ≠ go := by omega
      have e3 : w.heap.size ≠ go := by omega
      have e4 : w.heap.size ≠ gl := by omega
      gi_wp2_with (first | (refine ⟨trivial, ?_⟩; gi_at_call 40; refine (CallsIn.inRound l (callsIn_wide.2 (HLN.out _))).mono ?_; rintro e w' ⟨rfl, rfl⟩) | (gi_at_builtin; refine wpListIn_append_row_at W rfl (.tmp 36) (.tmp 42) 34 rfl w.heap.size 66 i0 _ 3 24 Try.underlying34 HI.out.1 HI.out.2.1 HI.out.2.2.1 HI.out.2.2.2 rfl (by decide) (by decide) A' m c' (bondRows S.1) rfl HR.out [.int .i64 q, .int .i64 c, .int .i64 ((k : Int) + 1)] 1 rfl rfl (by simp [Value.oneCell']) (by omega) (by omega) ?_; intro A2 c2' w3 hR3 hb3 hk3 hko3; have HR3 := Lib.hid hR3; have HB3 := Lib.hid hb3; have HK3 := Lib.hid hko3; clear hR3 hb3 hko3; have hGo3 := HG.out.1.kept hk3 (HR.out.apart HG.out.1 (by decide)); have hGl3 := HG.out.2.1.kept hk3 (HR.out.apart HG.out.2.1 (by decide)); have hGc3 := HG.out.2.2.1.kept hk3 (HR.out.apart HG.out.2.2.1 (by decide)); have hGi3 := HG.out.2.2.2.kept hk3 (HR.out.apart HG.out.2.2.2 (by decide)); have s0 : w3.cell? ⟨go, 0, none⟩ = some (.slice A' m c') := hGo3.cell 0; have f0 : w3.frozen? ⟨go, 0, none⟩ = false := hGo3.frozen 0; have s1 : w3.cell? ⟨gl, 0, none⟩ = some (.int .i64 S.2) := hGl3.cell 0; have f1 : w3.frozen? ⟨gl, 0, none⟩ = false := hGl3.frozen 0; have s2 : w3.cell? ⟨w.heap.size, 0, none⟩ = some (.int .i64 c) := hGc3.cell 0; have HG3 := Lib.hid (And.intro hGo3 (And.intro hGl3 (And.intro hGc3 hGi3))); clear hGo3 hGl3 hGc3 hGi3 hk3))
      have hwr : IntKind.i64.wrap (S.2 + q * c / 1000) = S.2 + q * c / 1000 := IntWalk.i64_in _ (by omega)
      have HW5 := Lib.hid (show KeepsFrom W0.heap.size W ((w3.setCell ⟨go, 0, none⟩ (.slice A2 (m + 1) c2')).setCell ⟨gl, 0, none⟩ (.int .i64 (S.2 + q * c / 1000))).drew ∧ KpB w.heap.size gi W ((w3.setCell ⟨go, 0, none⟩ (.slice A2 (m + 1) c2')).setCell ⟨gl, 0, none⟩ (.int .i64 (S.2 + q * c / 1000))).drew ∧ LadI w.heap.size go gl gi A n cap c w (ladF c ys (pre ++ [⟨k, hk⟩])) ((w3.setCell ⟨go, 0, none⟩ (.slice A2 (m + 1) c2')).setCell ⟨gl, 0, none⟩ (.int .i64 (S.2 + q * c / 1000))).drew ∧ Below w.heap.size w ((w3.setCell ⟨go, 0, none⟩ (.slice A2 (m + 1) c2')).setCell ⟨gl, 0, none⟩ (.int .i64 (S.2 + q * c / 1000))).drew from by
        have b5 : Below w.heap.size W ((w3.setCell ⟨go, 0, none⟩ (.slice A2 (m + 1) c2')).setCell ⟨gl, 0, none⟩ (.int .i64 (S.2 + q * c / 1000))).drew := ((HB3.out.setCell (p := ⟨go, 0, none⟩) (by show w.heap.size ≤ go; omega) _).setCell (p := ⟨gl, 0, none⟩) (by show w.heap.size ≤ gl; omega) _).drew
        have g5 : Blk ((w3.setCell ⟨go, 0, none⟩ (.slice A2 (m + 1) c2')).setCell ⟨gl, 0, none⟩ (.int .i64 (S.2 + q * c / 1000))) gi 33 #[.slice A n cap] := (HG3.out.2.2.2.far (p := ⟨go, 0, none⟩) (by show gi ≠ go; omega) _).far (p := ⟨gl, 0, none⟩) (by show gi ≠ gl; omega) _
        refine ⟨(((HK3.out.trans (KeepsOthers.setCell _ _ _)).trans (KeepsOthers.setCell _ _ _)).trans (KeepsOthers.drew _)).from _, ⟨b5, ?_⟩, LadI.drew ⟨⟨A2, m + 1, c2', ?_, ?_⟩, ?_, ?_, g5⟩, HBb.out.trans b5⟩
        · exact g5.trans (show W.heap[gi]? = _ from HG.out.2.2.2).symm
        · have h9 := (HG3.out.1.set_ 0 (.slice A2 (m + 1) c2')).far (p := ⟨gl, 0, none⟩) e1 (.int .i64 (S.2 + q * c / 1000))
          simpa using h9
        · rw [HST.out, show bondRows (S.1 ++ [⟨q, c, (k : Int) + 1⟩]) = bondRows S.1 ++ [[.int .i64 q, .int .i64 c, .int .i64 ((k : Int) + 1)]] by simp [bondRows, Bond.row]]
          refine HR3.out.keep fun g hg => ?_
          have hn1 : g ≠ go := fun e => HR3.out.apart HG3.out.1 (by decide) (by rw [hg, e]; rfl)
          have hn2 : g ≠ gl := fun e => HR3.out.apart HG3.out.2.1 (by decide) (by rw [hg, e]; rfl)
          exact (Below.heap_setCell _ _ _ _ hn2).trans (Below.heap_setCell _ _ _ _ hn1)
        · rw [HST.out]
          have h9 := (HG3.out.2.1.far (p := ⟨go, 0, none⟩) e2 (.slice A2 (m + 1) c2')).set_ 0 (.int .i64 (S.2 + q * c / 1000))
          simpa using h9
        · exact (HG3.out.2.2.1.far (p := ⟨go, 0, none⟩) e3 _).far (p := ⟨gl, 0, none⟩) e4 _)
      gi_region_with_o (refine ⟨trivial, ?_⟩; gi_at_call 41; refine (CallsIn.inRound l (callsIn_wide.2 (impl_perMille_any q c ⟨p1, p2⟩ _))).mono ?_; rintro e w' ⟨rfl, rfl⟩)
      all_goals gi_wp2
      all_goals (try rw [hwr])
      all_goals exact HW5.out
    · have HST := Lib.hid (HMiss.out hp)
      have hq0 : q = 0 := by omega
      gi_wp2_with (refine ⟨trivial, ?_⟩; gi_at_call 40; refine (CallsIn.inRound l (callsIn_wide.2 (HLN.out _))).mono ?_; rintro e w' ⟨rfl, rfl⟩)
      refine ⟨KeepsFrom.refl _ _, KpB.rfl' _ _ _, ⟨⟨A', m, c', HG.out.1, ?_⟩, ?_, HG.out.2.2.1, HG.out.2.2.2⟩, HBb.out⟩
      · rw [HST.out]; exact HR.out
      · rw [HST.out]; exact HG.out.2.1
  case done =>
    rintro D zs W hD rfl ⟨⟨⟨A', m, c', hGo, hR⟩, hGl, hGc, hGi⟩, hB⟩ hK
    have hdn : ladF c ys (dnK n hn20 n) = ((ladS c ys n).1.reverse, (ladS c ys n).2) := by
      have hl := HL.out
      subst hl
      exact ladF_dn hn20 ys.length
    rw [hdn] at hR
    have hmm : m ≤ 30 := by
      have h := hR.len
      rw [bondRows_length, List.length_reverse] at h
      have hb := (ladS_bound (c := c) (ys := ys) ⟨c1, c2⟩ (fun y hy => inR_true.1 ((by
        have h := h1
        simp only [needsB, Bool.and_eq_true, decide_eq_true_eq, allR, List.all_eq_true] at h
        exact h.2 y hy))) n).2
      omega
    have hwW := hB.size
    have k0 : W.cell? ⟨go, 0, none⟩ = some (.slice A' m c') := hGo.cell 0
    have hgW := hGo.lt
    gi_wp2_with (refine ⟨trivial, ?_⟩; gi_at_call 42; refine (callsIn_wide.2 (reverse_any _ _ hR (by omega) hwW)).mono ?_; rintro e w3 ⟨rfl, hR3, hb3, hk3⟩; have k3 : w3.cell? ⟨go, 0, none⟩ = some (.slice A' m c') := (World.cell?_of_block (hk3 go hgW (fun e => hR.apart hGo (by decide) (by rw [e]; rfl)))).trans k0)
    have hAD : ∀ g, A' = some ⟨g, 0, none⟩ → g ≠ D := fun g e hgD => by
      rcases hR.form with e2 | ⟨g', cur, e2, _, hb2⟩
      · rw [e2] at e; cases e
      · rw [e2] at e
        have hgg : g' = g := by injection e with e; injection e
        subst hgg
        rw [hgD] at hb2
        have h9 := hK.symm.trans (show W.heap[D]? = _ from hb2)
        injection h9 with h9
        cases h9
    have hK3 : w3.heap[D]? = some (.deferred (some [])) := (hk3 D (Array.getElem?_eq_some_iff.1 hK).1 (fun e => hAD D e rfl)).trans hK
    rw [List.reverse_reverse] at hR3
    refine ⟨by simp, .inl ⟨_, _, rfl, run_takeDeferred hK3, ?_⟩⟩
    exact ⟨_, results_tmp2 rfl _ _ _, A', m, c', rfl, hR3.keep fun g hg => World.putObj_heap_other (hAD g hg), (hB.trans hb3).trans (belowK_b (w := w) (Nat.le_refl _) w3 D _ _ (Nat.le_trans hszw hD) hK3 rfl rfl)⟩
  case stop =>
    rintro D c pre W _ _ h _
    exact h.elim

set_option maxHeartbeats 2000000 in
theorem impl_BuildLadder_any (A : Option Addr) (n cap : Nat) (ys : List Int) (c : Int) (w : World) (hl : ys.length = n) (hn : n ≤ 1048576) (hY : Rd w w.heap.size A 1 (intRows ys)) (_hf : ∀ y ∈ ys, In64 y) (_hc : In64 c) :
    Calls Try.prog 14 #[.slice A n cap, .int .i64 c] w fun e w' => ∃ A' n' c', e = .returned (.tuple #[.slice A' n' c', .int .i64 (ladderP ys c).2]) ∧ Res w.heap.size w' 66 3 A' n' c' (bondRows (ladderP ys c).1) ∧ Below w.heap.size w w' := by
  by_cases hg : needsB ys = true ∧ ys.length ≤ 30 ∧ inR c 0 200 = true
  · have Q := Lib.hid (show ladderP ys c = ((ladS c ys n).1, 0) by unfold ladderP; rw [if_pos hg, hl])
    rw [Q.out]
    exact buildLadder_good A n cap ys c w hl (by rw [← hl]; exact hg.2.1) hY hg.1 hg.2.2
  have Q := Lib.hid (show ladderP ys c = ([], 2) by unfold ladderP; rw [if_neg hg])
  have HY := Lib.hid hY; clear hY
  have HL := Lib.hid hl
  by_cases h2 : n ≤ 30
  rotate_left
  · clear hg hl
    go_enter Try.func14, Try.ntmps14
    go_wp2
    go_ret2
    exact ⟨none, 0, 0, by rw [Q.out]; rfl, by rw [Q.out]; exact Res.nil_, (Below.refl _ _).alloc (Nat.le_refl _) _⟩
  have HB0 := Lib.hid (show Below w.heap.size w (w.alloc (.cells #[.int .i64 c] 2)) from (Below.refl _ w).alloc (Nat.le_refl _) _)
  have HC0 := Lib.hid (Blk.new w 2 #[.int .i64 c])
  cases hai : allR ys 0 1000000000
  · clear hg hl
    go_enter Try.func14, Try.ntmps14
    go_wp2_with fail
    refine (impl_allIn_any A n cap ys 0 1000000000 _ HL.out (by omega) ((HY.out.below HB0.out).more HB0.out.size)).mono ?_
    rw [hai]
    rintro e w1 ⟨rfl, hb1⟩
    have HB1 := Lib.hid (HB0.out.trans (hb1.mono HB0.out.size)); clear hb1
    go_wp2
    go_ret2
    exact ⟨none, 0, 0, by rw [Q.out]; rfl, by rw [Q.out]; exact Res.nil_, HB1.out⟩
  · have h3 : inR c 0 200 = false := by
      cases h : inR c 0 200
      · rfl
      · exact absurd ⟨by simp only [needsB, Bool.and_eq_true, decide_eq_true_eq]; exact ⟨by omega, hai⟩, by omega, h⟩ hg
    clear hg hl
    go_enter Try.func14, Try.ntmps14
    go_wp2_with fail
    refine (impl_allIn_any A n cap ys 0 1000000000 _ HL.out (by omega) ((HY.out.below HB0.out).more HB0.out.size)).mono ?_
    rw [hai]
    rintro e w1 ⟨rfl, hb1⟩
    have c0 : w1.cell? ⟨w.heap.size, 0, none⟩ = some (.int .i64 c) := (HC0.out.below' hb1).cell 0
    have HB1 := Lib.hid (HB0.out.trans (hb1.mono HB0.out.size)); clear hb1
    go_wp2_with fail
    refine (impl_inRange_any c 0 200 _).mono ?_
    rw [h3]
    rintro e w2 ⟨rfl, rfl⟩
    go_wp2
    go_ret2
    exact ⟨none, 0, 0, by rw [Q.out]; rfl, by rw [Q.out]; exact Res.nil_, HB1.out⟩
end Go.Proofs.Ytlbllonpodckgaa
