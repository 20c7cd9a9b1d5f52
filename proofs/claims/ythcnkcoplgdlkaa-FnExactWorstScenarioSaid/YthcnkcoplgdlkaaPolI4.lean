/- What reserves are made of, forward reserves, rounded: the program's contracts. -/
import Derived.Test.YthcnkcoplgdlkaaPolI3
namespace Go.Proofs.Ythcnkcoplgdlkaa
open Go.RowKit Go.BigFrame


set_option maxRecDepth 100000 in
set_option maxHeartbeats 4000000 in
theorem impl_partsAt_any (b : Bas) (A : Option Addr) (n cap : Nat) (p : Policy) (L : Option Addr) (lc : Nat) (k : Int) (w : World) (_hB : BasT w A n cap b) (P : PolOk b p) (hk : 0 ≤ k ∧ k ≤ durP b p - 1) (hL : Rd w w.heap.size L 4 (colRows b.lives b.rate (151 - b.first).toNat)) :
    Calls Try.prog 176 #[.agg #[.int .i64 b.first, .slice A n cap, .int .i64 b.rate], .agg p.row.toArray, .slice L (151 - b.first).toNat lc, .int .i64 k] w fun e w' => e = .returned (.agg #[.int .i64 (partT b p k), .int .i64 (partB b p k), .int .i64 (partD b p k)]) ∧ Below w.heap.size w w' := by
  have hbw : Below w.heap.size w (((w.alloc (.cells #[.int .i64 b.first, .slice A n cap, .int .i64 b.rate] 32)).alloc (.cells #[.int .i64 p.kind, .int .i64 p.age, .int .i64 p.years, .int .i64 p.sum, .int .i64 p.load] 44)).alloc (.cells #[.int .i64 0, .int .i64 0, .int .i64 0] 103)) := (((Below.refl _ w).alloc (Nat.le_refl _) _).alloc (by simp) _).alloc (by simp <;> omega) _
  have HB := Lib.hid (((Blk.new w 32 #[.int .i64 b.first, .slice A n cap, .int .i64 b.rate]).alloc (.cells #[.int .i64 p.kind, .int .i64 p.age, .int .i64 p.years, .int .i64 p.sum, .int .i64 p.load] 44)).alloc (.cells #[.int .i64 0, .int .i64 0, .int .i64 0] 103))
  have HP := Lib.hid ((Blk.new (w.alloc (.cells #[.int .i64 b.first, .slice A n cap, .int .i64 b.rate] 32)) 44 #[.int .i64 p.kind, .int .i64 p.age, .int .i64 p.years, .int .i64 p.sum, .int .i64 p.load]).alloc (.cells #[.int .i64 0, .int .i64 0, .int .i64 0] 103))
  have HR := Lib.hid (Blk.new ((w.alloc (.cells #[.int .i64 b.first, .slice A n cap, .int .i64 b.rate] 32)).alloc (.cells #[.int .i64 p.kind, .int .i64 p.age, .int .i64 p.years, .int .i64 p.sum, .int .i64 p.load] 44)) 103 #[.int .i64 0, .int .i64 0, .int .i64 0])
  simp only [World.size_alloc] at HP HR
  unfold Policy.row
  have HLr := Lib.hid (hL.past hbw); clear hL
  obtain ⟨k0, k1⟩ := hk
  have dh := dur_bound P
  have a1 := P.age0; have a2 := P.age1; have y0 := P.yrs0; have y1 := P.yrs1; have e1 := P.end1; have f1 := P.tab.first0; have f2 := P.tab.first1
  have hak : p.age + k ≤ 149 := by
    have t1 := P.tab.top
    unfold durP Bas.last at k1
    split at k1 <;> omega
  have HPO := Lib.hid P; clear P
  have hlf : 0 ≤ leftP p k := by
    unfold leftP
    unfold durP at k1
    split
    · omega
    · rename_i h; rw [if_neg h] at k1; omega
  obtain ⟨top, htp⟩ : ∃ top, (151 - b.first).toNat = top := ⟨_, rfl⟩
  have htop1 : (top : Int) ≤ 151 - b.first := by omega
  have htop2 : 151 - b.first ≤ (top : Int) := by omega
  rw [htp] at HLr ⊢
  clear htp
  obtain ⟨dk, hdk⟩ : ∃ dk, b.d (p.age + k) = dk := ⟨_, rfl⟩
  obtain ⟨nk, hnk⟩ : ∃ nk, nC b.lives b.rate (b.ix (p.age + k)) = nk := ⟨_, rfl⟩
  obtain ⟨ck, hck⟩ : ∃ ck, cC b.lives b.rate (b.ix (p.age + k)) = ck := ⟨_, rfl⟩
  obtain ⟨mk, hmk⟩ : ∃ mk, mC b.lives b.rate (b.ix (p.age + k)) = mk := ⟨_, rfl⟩
  have z1 := nC_bound HPO.out.tab HPO.out.rate0 (b.ix (p.age + k)); have z2 := mC_bound HPO.out.tab HPO.out.rate0 (b.ix (p.age + k)); have z5 := dC_bound HPO.out.tab HPO.out.rate0 (b.ix (p.age + k))
  rw [hnk] at z1
  rw [hmk] at z2
  have hdk2 : dC b.lives b.rate (b.ix (p.age + k)) = dk := hdk
  rw [hdk2] at z1 z2 z5
  have QD := Lib.hid (show partD b p k = dk from hdk)
  have HDk := Lib.hid hdk; have HNk := Lib.hid hnk; have HCk := Lib.hid hck; have HMk := Lib.hid hmk
  clear hdk hdk2 hnk hck hmk
  go_enter Try.func176, Try.ntmps176
  go_wp2_with fail
  refine (impl_Basis_at_lit b A n cap L top lc (p.age + k) _ HLr.out ⟨by omega, by omega⟩ ⟨by omega, by omega⟩ (by unfold Bas.ix; omega) (by omega) dk nk ck mk HDk.out HNk.out HCk.out HMk.out).mono ?_
  rintro e w1 ⟨rfl, hb1⟩
  have HB1 := Lib.hid ((HB.out.below' hb1)); have HP1 := Lib.hid ((HP.out.below' hb1)); have HR1 := Lib.hid ((HR.out.below' hb1))
  have HLr1 := Lib.hid (HLr.out.past hb1)
  have hbw1 := hbw.trans (hb1.mono hbw.size)
  have hR1l := HR1.out.lt
  have hbx : Below w1.heap.size w1 ((w1.alloc (.cells #[.int .i64 dk, .int .i64 nk, .int .i64 ck, .int .i64 mk] 168)).alloc (.cells #[.int .i64 0, .int .i64 0, .int .i64 0, .int .i64 0] 168)) := ((Below.refl _ w1).alloc (Nat.le_refl _) _).alloc (by simp) _
  have HPx := Lib.hid (HP1.out.below' hbx); have HBx := Lib.hid (HB1.out.below' hbx)
  have cp0 : ((w1.alloc (.cells #[.int .i64 dk, .int .i64 nk, .int .i64 ck, .int .i64 mk] 168)).alloc (.cells #[.int .i64 0, .int .i64 0, .int .i64 0, .int .i64 0] 168)).cell? ⟨w.heap.size + 1, 0, none⟩ = some (.int .i64 p.kind) := HPx.out.cell 0
  have hs1 : w.heap.size + 1 < w1.heap.size := by omega
  by_cases hk0 : p.kind = 0
  · have hkb : (p.kind != 0) = false := by simp [hk0]
    have QT := Lib.hid (show benT p.kind mk 0 0 = partT b p k ∧ benB p.kind nk 0 = partB b p k by
      unfold partT partB Bas.top Bas.base topF baseF benT benB
      rw [if_pos hk0, if_pos hk0, if_pos hk0, if_pos hk0, HMk.out, HNk.out]
      exact ⟨rfl, rfl⟩)
    clear hk0
    have HRx := Lib.hid (HR1.out.below' hbx)
    have HNx := Lib.hid ((Blk.new w1 168 #[.int .i64 dk, .int .i64 nk, .int .i64 ck, .int .i64 mk]).alloc (.cells #[.int .i64 0, .int .i64 0, .int .i64 0, .int .i64 0] 168))
    go_wp2_with fail
    refine (impl_benefits_any p.kind dk nk ck mk 0 0 0 0 _ ⟨by omega, by omega⟩ ⟨by omega, by omega⟩ ⟨by omega, by omega⟩ ⟨by omega, by omega⟩ ⟨by omega, by omega⟩).mono ?_
    rw [QT.out.1, QT.out.2]
    rintro e w5 ⟨rfl, hb5⟩
    have HR5 := Lib.hid (HRx.out.below' hb5)
    have n5 : w5.cell? ⟨w1.heap.size, 0, none⟩ = some (.int .i64 dk) := (HNx.out.below' hb5).cell 0
    have H1c : Hid (∀ v ∈ ([.int .i64 (partT b p k), .int .i64 dk, .int .i64 (partB b p k)] : List Value), v.oneCell' = true) := Lib.hid (by simp [Value.oneCell'])
    have H1d : Hid (∀ v ∈ ([.int .i64 (partT b p k), .int .i64 (partB b p k), .int .i64 dk] : List Value), v.oneCell' = true) := Lib.hid (by simp [Value.oneCell'])
    go_wp2_with (refine wpList_store_agg rfl 103 _ _ rfl (w.heap.size + 2) 0 [.int .i64 (partT b p k), .int .i64 (partB b p k), .int .i64 dk] rfl rfl 103 #[.int .i64 0, .int .i64 0, .int .i64 0] HR5.out ReserveParts.size (by simp) H1d.out ?_)
    intro w6 hR6 hg6 _
    have hR6' : Blk w6 (w.heap.size + 2) 103 #[.int .i64 (partT b p k), .int .i64 (partB b p k), .int .i64 dk] := hR6
    have r0 : w6.cell? ⟨w.heap.size + 2, 0, none⟩ = some (.int .i64 (partT b p k)) := hR6'.cell 0
    have r1 : w6.cell? ⟨w.heap.size + 2, 1, none⟩ = some (.int .i64 (partB b p k)) := hR6'.cell 1
    have r2 : w6.cell? ⟨w.heap.size + 2, 2, none⟩ = some (.int .i64 dk) := hR6'.cell 2
    go_wp2
    have hx : Below w.heap.size w w5 := hbw1.trans ((hbx.mono hbw1.size).trans (hb5.mono (Nat.le_trans hbw1.size hbx.size)))
    refine bodyPost_ret (v := .agg #[.int .i64 (partT b p k), .int .i64 (partB b p k), .int .i64 dk]) (by simp [results, Try.results176, go_sem, r0, r1, r2]) rfl ⟨by rw [QD.out], hx.grown hg6 hx.size (fun k hk => by injection hk with hk; omega)⟩
  · have hkb : (p.kind != 0) = true := by simp [hk0]
    have hlft : leftP p k = p.years - k := by unfold leftP; rw [if_neg hk0]
    obtain ⟨dm, hdm⟩ : ∃ dm, b.d (p.age + p.years) = dm := ⟨_, rfl⟩
    obtain ⟨nm, hnm⟩ : ∃ nm, nC b.lives b.rate (b.ix (p.age + p.years)) = nm := ⟨_, rfl⟩
    obtain ⟨cm, hcm⟩ : ∃ cm, cC b.lives b.rate (b.ix (p.age + p.years)) = cm := ⟨_, rfl⟩
    obtain ⟨mm, hmm⟩ : ∃ mm, mC b.lives b.rate (b.ix (p.age + p.years)) = mm := ⟨_, rfl⟩
    have y1' := nC_bound HPO.out.tab HPO.out.rate0 (b.ix (p.age + p.years)); have y2' := mC_bound HPO.out.tab HPO.out.rate0 (b.ix (p.age + p.years)); have y5' := dC_bound HPO.out.tab HPO.out.rate0 (b.ix (p.age + p.years))
    rw [hnm] at y1'
    rw [hmm] at y2'
    have hdm2 : dC b.lives b.rate (b.ix (p.age + p.years)) = dm := hdm
    rw [hdm2] at y1' y2' y5'
    have QT := Lib.hid (show benT p.kind mk mm dm = partT b p k ∧ benB p.kind nk nm = partB b p k by
      have h9 := ben_top (b := b) (kind := p.kind) (age := p.age + k) (n := leftP p k) (by omega) hlf
      rw [show p.age + k + leftP p k = p.age + p.years by omega, HMk.out, HNk.out, hmm, hnm, hdm2] at h9
      exact h9)
    have HDm := Lib.hid hdm; have HNm := Lib.hid hnm; have HCm := Lib.hid hcm; have HMm := Lib.hid hmm
    clear hdm hdm2 hnm hcm hmm hk0 hlft
    have HRx := Lib.hid (HR1.out.below' hbx)
    have HNx := Lib.hid ((Blk.new w1 168 #[.int .i64 dk, .int .i64 nk, .int .i64 ck, .int .i64 mk]).alloc (.cells #[.int .i64 0, .int .i64 0, .int .i64 0, .int .i64 0] 168))
    have HLx := Lib.hid (Blk.new (w1.alloc (.cells #[.int .i64 dk, .int .i64 nk, .int .i64 ck, .int .i64 mk] 168)) 168 #[.int .i64 0, .int .i64 0, .int .i64 0, .int .i64 0])
    rw [World.size_alloc] at HLx
    have HLr2 := Lib.hid (HLr1.out.past hbx)
    have cp1 : ((w1.alloc (.cells #[.int .i64 dk, .int .i64 nk, .int .i64 ck, .int .i64 mk] 168)).alloc (.cells #[.int .i64 0, .int .i64 0, .int .i64 0, .int .i64 0] 168)).cell? ⟨w.heap.size + 1, 1, none⟩ = some (.int .i64 p.age) := HPx.out.cell 1
    have cp2 : ((w1.alloc (.cells #[.int .i64 dk, .int .i64 nk, .int .i64 ck, .int .i64 mk] 168)).alloc (.cells #[.int .i64 0, .int .i64 0, .int .i64 0, .int .i64 0] 168)).cell? ⟨w.heap.size + 1, 2, none⟩ = some (.int .i64 p.years) := HPx.out.cell 2
    have cb0 : ((w1.alloc (.cells #[.int .i64 dk, .int .i64 nk, .int .i64 ck, .int .i64 mk] 168)).alloc (.cells #[.int .i64 0, .int .i64 0, .int .i64 0, .int .i64 0] 168)).cell? ⟨w.heap.size, 0, none⟩ = some (.int .i64 b.first) := HBx.out.cell 0
    have cb1 : ((w1.alloc (.cells #[.int .i64 dk, .int .i64 nk, .int .i64 ck, .int .i64 mk] 168)).alloc (.cells #[.int .i64 0, .int .i64 0, .int .i64 0, .int .i64 0] 168)).cell? ⟨w.heap.size, 1, none⟩ = some (.slice A n cap) := HBx.out.cell 1
    have cb2 : ((w1.alloc (.cells #[.int .i64 dk, .int .i64 nk, .int .i64 ck, .int .i64 mk] 168)).alloc (.cells #[.int .i64 0, .int .i64 0, .int .i64 0, .int .i64 0] 168)).cell? ⟨w.heap.size, 2, none⟩ = some (.int .i64 b.rate) := HBx.out.cell 2
    have hs0 : w.heap.size < w1.heap.size := by omega
    go_wp2_with fail
    refine (impl_Basis_at_lit b A n cap L top lc (p.age + p.years) _ HLr2.out ⟨by omega, by omega⟩ ⟨by omega, by omega⟩ (by unfold Bas.ix; omega) (by omega) dm nm cm mm HDm.out HNm.out HCm.out HMm.out).mono ?_
    rintro e w2 ⟨rfl, hb2⟩
    have HR2 := Lib.hid (HRx.out.below' hb2); have HN2 := Lib.hid (HNx.out.below' hb2); have HL2 := Lib.hid (HLx.out.below' hb2); have HP2 := Lib.hid ((HP1.out.below' hbx).below' hb2)
    clear cp0 cp1 cp2 cb0 cb1 cb2
    have H1e : Hid (∀ v ∈ ([.int .i64 dm, .int .i64 nm, .int .i64 cm, .int .i64 mm] : List Value), v.oneCell' = true) := Lib.hid (by simp [Value.oneCell'])
    go_wp2_with (refine wpList_store_agg rfl 168 _ _ rfl (w1.heap.size + 1) 0 [.int .i64 dm, .int .i64 nm, .int .i64 cm, .int .i64 mm] rfl rfl 168 #[.int .i64 0, .int .i64 0, .int .i64 0, .int .i64 0] HL2.out Columns.size (by simp) H1e.out ?_)
    intro w3 hL3 hg3 _
    have HL3 := Lib.hid (show Blk w3 (w1.heap.size + 1) 168 #[.int .i64 dm, .int .i64 nm, .int .i64 cm, .int .i64 mm] from hL3)
    have HN3 := Lib.hid (HN2.out.grown hg3 (by intro e; injection e with e; omega))
    have HR3 := Lib.hid (HR2.out.grown hg3 (by intro e; injection e with e; omega))
    have HP3 := Lib.hid (HP2.out.grown hg3 (by intro e; injection e with e; omega))
    have hb3 : Below w1.heap.size w1 w3 := (hbx.trans (hb2.mono hbx.size)).grown hg3 (by have := hb2.size; simp at this; omega) (fun k hk => by injection hk with hk; omega)
    clear hg3 hL3
    have q0 : w3.cell? ⟨w.heap.size + 1, 0, none⟩ = some (.int .i64 p.kind) := HP3.out.cell 0
    have hcN := Lib.hid (Blk.agg (cs := [.int .i64 dk, .int .i64 nk, .int .i64 ck, .int .i64 mk]) HN3.out 0 [.int .i64 dk, .int .i64 nk, .int .i64 ck, .int .i64 mk] rfl)
    have hcL := Lib.hid (Blk.agg (cs := [.int .i64 dm, .int .i64 nm, .int .i64 cm, .int .i64 mm]) HL3.out 0 [.int .i64 dm, .int .i64 nm, .int .i64 cm, .int .i64 mm] rfl)
    go_wp2_with (first | (refine wpList_load_agg rfl 168 _ rfl ⟨w1.heap.size, 0, none⟩ rfl [.int .i64 dk, .int .i64 nk, .int .i64 ck, .int .i64 mk] hcN.out _ Try.underlying168 rfl Columns.size ?_) | (refine wpList_load_agg rfl 168 _ rfl ⟨w1.heap.size + 1, 0, none⟩ rfl [.int .i64 dm, .int .i64 nm, .int .i64 cm, .int .i64 mm] hcL.out _ Try.underlying168 rfl Columns.size ?_))
    refine (impl_benefits_any p.kind dk nk ck mk dm nm cm mm _ ⟨by omega, by omega⟩ ⟨by omega, by omega⟩ ⟨by omega, by omega⟩ ⟨by omega, by omega⟩ ⟨by omega, by omega⟩).mono ?_
    rw [QT.out.1, QT.out.2]
    rintro e w5 ⟨rfl, hb5⟩
    have HR5 := Lib.hid (HR3.out.below' hb5)
    have n5 : w5.cell? ⟨w1.heap.size, 0, none⟩ = some (.int .i64 dk) := (HN3.out.below' hb5).cell 0
    clear q0 hcN hcL
    have H1c : Hid (∀ v ∈ ([.int .i64 (partT b p k), .int .i64 dk, .int .i64 (partB b p k)] : List Value), v.oneCell' = true) := Lib.hid (by simp [Value.oneCell'])
    have H1d : Hid (∀ v ∈ ([.int .i64 (partT b p k), .int .i64 (partB b p k), .int .i64 dk] : List Value), v.oneCell' = true) := Lib.hid (by simp [Value.oneCell'])
    go_wp2_with (refine wpList_store_agg rfl 103 _ _ rfl (w.heap.size + 2) 0 [.int .i64 (partT b p k), .int .i64 (partB b p k), .int .i64 dk] rfl rfl 103 #[.int .i64 0, .int .i64 0, .int .i64 0] HR5.out ReserveParts.size (by simp) H1d.out ?_)
    intro w6 hR6 hg6 _
    have hR6' : Blk w6 (w.heap.size + 2) 103 #[.int .i64 (partT b p k), .int .i64 (partB b p k), .int .i64 dk] := hR6
    have r0 : w6.cell? ⟨w.heap.size + 2, 0, none⟩ = some (.int .i64 (partT b p k)) := hR6'.cell 0
    have r1 : w6.cell? ⟨w.heap.size + 2, 1, none⟩ = some (.int .i64 (partB b p k)) := hR6'.cell 1
    have r2 : w6.cell? ⟨w.heap.size + 2, 2, none⟩ = some (.int .i64 dk) := hR6'.cell 2
    go_wp2
    have hx : Below w.heap.size w w5 := hbw1.trans ((hb3.mono hbw1.size).trans (hb5.mono (Nat.le_trans hbw1.size hb3.size)))
    refine bodyPost_ret (v := .agg #[.int .i64 (partT b p k), .int .i64 (partB b p k), .int .i64 dk]) (by simp [results, Try.results176, go_sem, r0, r1, r2]) rfl ⟨by rw [QD.out], hx.grown hg6 hx.size (fun k hk => by injection hk with hk; omega)⟩

end Go.Proofs.Ythcnkcoplgdlkaa
