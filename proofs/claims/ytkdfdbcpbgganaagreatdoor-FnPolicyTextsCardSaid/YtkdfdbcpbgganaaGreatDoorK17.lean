/- Parts of a proof, one after another: Pt5, PtL, DrawLaw, Held, DoorE. No condition. -/
import Derived.Test.YtkdfdbcpbgganaaGreatDoorK1
import Derived.Test.YtkdfdbcpbgganaaGreatDoorK10
import Derived.Test.YtkdfdbcpbgganaaGreatDoorK11
import Derived.Test.YtkdfdbcpbgganaaGreatDoorK13
import Derived.Test.YtkdfdbcpbgganaaGreatDoorK14
import Derived.Test.YtkdfdbcpbgganaaGreatDoorK15
import Derived.Test.YtkdfdbcpbgganaaGreatDoorK16
import Derived.Deep.DeepCutAuto
import Derived.Stop.LaidErr
import Derived.Shelf.Vars
/- Policies are read: ReadPolicy of the program and of the reference. -/
section
namespace Go.Proofs.YtkdfdbcpbgganaaGreatDoor
open Go.RowKit Go.BigFrame

theorem zeros_madeP (n : Nat) : (madeCells (Value.int .i64 0).cells (n * 1)).toList = (intRows (List.replicate n 0)).flatten := by
  have e1 : (madeCells (Value.int .i64 0).cells (n * 1)).toList = List.replicate n (Value.int .i64 0) := by
    refine List.eq_replicate_iff.2 ⟨by simp [madeCells], fun b hb => ?_⟩
    simp only [madeCells, Array.toList_map, List.mem_map] at hb
    obtain ⟨i, _, rfl⟩ := hb
    have : i % (Value.int .i64 0).cells.size = 0 := by
      have h1 : (Value.int .i64 0).cells.size = 1 := rfl
      rw [h1]; exact Nat.mod_one i
    rw [this]; rfl
  rw [e1]
  induction n with
  | zero => rfl
  | succ n ih => rw [List.replicate_succ, List.replicate_succ, intRows, List.map_cons, List.flatten_cons, ← intRows, ← ih (by
      refine List.eq_replicate_iff.2 ⟨by simp [madeCells], fun b hb => ?_⟩
      simp only [madeCells, Array.toList_map, List.mem_map] at hb
      obtain ⟨i, _, rfl⟩ := hb
      have : i % (Value.int .i64 0).cells.size = 0 := by
        have h1 : (Value.int .i64 0).cells.size = 1 := rfl
        rw [h1]; exact Nat.mod_one i
      rw [this]; rfl)]; rfl
def zeroP (n : Nat) : Array Value := madeCells (Value.int .i64 0).cells (n * 1)
theorem Res.madeP (w : World) (B n : Nat) (t : TypeId) (hB : B ≤ w.heap.size) (hn : n ≤ 1048576) : Res B (w.alloc (.cells (zeroP n) t)) t 1 (some ⟨w.heap.size, 0, none⟩) n n (intRows (List.replicate n 0)) := by
  have h := World.ownsRow_lit (base := B) (e := t) (size := 1) w (madeCells (Value.int .i64 0).cells (n * 1)) n hB (by unfold maxLen; omega) (by simp [madeCells])
  rw [zeros_madeP] at h
  exact ⟨h, by simp [intRows], intRows_all _⟩


def PolE (s : ByteArray) (w w' : World) (e : Ending) : Prop := ∃ (p : Policy) (b : Bool), e = .returned (.tuple #[.agg p.row.toArray, .bool b]) ∧ p.fits ∧ (b = true → polA p = true ∧ s.data.toList = intsL 44 p.nums) ∧ (b = false → p = ⟨0, 0, 0, 0, 0⟩) ∧
  (∀ q : Policy, polA q = true → s.data.toList = intsL 44 q.nums → p = q ∧ b = true) ∧ Below w.heap.size w w'
theorem fits0 : Policy.fits ⟨0, 0, 0, 0, 0⟩ := by simp [Policy.fits, In64]
theorem isEmptyS2 {l : List UInt8} (h : l ≠ []) : (S l).toList.isEmpty = false := isEmpty_ne (fun e => h (S_inj (e.trans (show (⟨#[]⟩ : ByteArray) = S [] from rfl))))
theorem sep44 : SepB 44 := by unfold SepB; decide
theorem pol_words {q : Policy} {l : List UInt8} (h : polA q = true) (hl : l = intsL 44 q.nums) : cutL 44 l = q.nums.map Lib.itoa ∧ (∀ m ∈ q.nums, -9999999999999 ≤ m ∧ m ≤ 9999999999999) ∧ q.nums.length = 5 := by
  refine ⟨by rw [hl]; exact cut_ints sep44 (by simp [Policy.nums]), fun m hm => ?_, rfl⟩
  unfold polA allR at h
  have := inR_true.1 (List.all_eq_true.1 h _ hm)
  omega
theorem polT_yes {p : Policy} (h : polA p = true) : polT p = intsL 44 p.nums := by unfold polT; rw [if_pos h]
theorem polT_no {p : Policy} (h : polA p = false) : polT p = [] := by unfold polT; rw [h]; rfl
theorem intsL_ne (c : UInt8) (n : Int) (ns : List Int) : intsL c (n :: ns) ≠ [] := by
  intro h
  have h1 : (Lib.join ((n :: ns).map Lib.itoa) [c]) = [] := h
  match ns, h1 with
  | [], h1 =>
    rw [List.map_cons, List.map_nil, join_one] at h1
    exact itoa_ne n h1
  | m :: r, h1 =>
    rw [List.map_cons, List.map_cons, join_cons] at h1
    simp at h1
theorem polT_ne {p : Policy} (h : polA p = true) : polT p ≠ [] := by rw [polT_yes h]; exact intsL_ne _ _ _
/-- all words are numbers' texts -/
theorem all_words {ws : List (List UInt8)} {ns : List Int} (h : NumsZ ws ns ws.length) : ws = ns.map Lib.itoa := by
  apply List.ext_getElem?
  intro j
  rw [List.getElem?_map]
  have hlen := h.len
  rcases Nat.lt_or_ge j ns.length with hj | hj
  · obtain ⟨x, hx⟩ := get_of_lt hj
    obtain ⟨p, hp⟩ := get_of_lt (xs := ws) (k := j) (by omega)
    rw [hx, hp, h.back j x p hx hp]; rfl
  · rw [List.getElem?_eq_none (by omega), List.getElem?_eq_none hj]; rfl
theorem five {ns : List Int} (h : ns.length = 5) : ∃ x0 x1 x2 x3 x4, ns = [x0, x1, x2, x3, x4] := by
  match ns, h with
  | [a, b, c, d, e], _ => exact ⟨a, b, c, d, e, rfl⟩
theorem nums_inj {p q : Policy} (h : p.nums = q.nums) : p = q := by
  obtain ⟨a, b, c, d, e⟩ := p
  obtain ⟨a', b', c', d', e'⟩ := q
  simp only [Policy.nums, List.cons.injEq, and_true] at h
  obtain ⟨rfl, rfl, rfl, rfl, rfl⟩ := h
  rfl
/-- the words that ParseInt has read -/
structure Prs (ws : List (List UInt8)) (ns : List Int) (k : Nat) : Prop where
  len : ns.length = k
  fit : ∀ x ∈ ns, In64 x
  ok : ∀ (j : Nat) (x : Int) (p : List UInt8), ns[j]? = some x → ws[j]? = some p → Lib.parseIntB 64 p = .ok x
theorem Prs.nil (ws : List (List UInt8)) : Prs ws [] 0 := ⟨rfl, by simp, fun j x p h => by simp at h⟩
theorem Prs.snoc {ws : List (List UInt8)} {ns : List Int} {k : Nat} {p : List UInt8} {n : Int} (h : Prs ws ns k) (hp : ws[k]? = some p) (hn : In64 n) (h1 : Lib.parseIntB 64 p = .ok n) : Prs ws (ns ++ [n]) (k + 1) := by
  refine ⟨by simp [h.len], ?_, ?_⟩
  · intro x hx
    rcases List.mem_append.1 hx with hx | hx
    · exact h.fit x hx
    · simp only [List.mem_singleton] at hx; rw [hx]; exact hn
  · intro j x q hx hq
    rcases Nat.lt_or_ge j k with hj | hj
    · rw [List.getElem?_append_left (by rw [h.len]; exact hj)] at hx
      exact h.ok j x q hx hq
    · have hjl := (List.getElem?_eq_some_iff.1 hx).1
      rw [List.length_append, h.len] at hjl
      have hjk : j = k := by simp at hjl; omega
      subst hjk
      rw [List.getElem?_append_right (by rw [h.len]; exact Nat.le_refl _), h.len, Nat.sub_self] at hx
      simp only [List.getElem?_cons_zero, Option.some.injEq] at hx
      subst hx
      rw [hp] at hq
      injection hq with hq
      rw [← hq]
      exact h1
theorem Prs.is {ws : List (List UInt8)} {ns ms : List Int} (h : Prs ws ns ws.length) (hw : ws = ms.map Lib.itoa) (hm : ∀ m ∈ ms, -9999999999999 ≤ m ∧ m ≤ 9999999999999) : ns = ms := by
  apply List.ext_getElem?
  intro j
  have hl : ws.length = ms.length := by rw [hw, List.length_map]
  have hlen := h.len
  rcases Nat.lt_or_ge j ns.length with hj | hj
  · obtain ⟨x, hx⟩ := get_of_lt hj
    obtain ⟨m, hmj⟩ := get_of_lt (xs := ms) (k := j) (by omega)
    have hp : ws[j]? = some (Lib.itoa m) := by rw [hw, List.getElem?_map, hmj]; rfl
    have h1 := h.ok j x _ hx hp
    rw [parse_itoa (hm m (List.mem_of_getElem? hmj))] at h1
    injection h1 with h1
    rw [hx, hmj, h1]
  · rw [List.getElem?_eq_none hj, List.getElem?_eq_none (by omega)]
theorem word_in {ws : List (List UInt8)} {ms : List Int} {k : Nat} {p : List UInt8} (hw : ws = ms.map Lib.itoa) (hp : ws[k]? = some p) (hm : ∀ m ∈ ms, -9999999999999 ≤ m ∧ m ≤ 9999999999999) : ∃ m, Lib.parseIntB 64 p = .ok m := by
  rw [hw, List.getElem?_map] at hp
  cases hx : ms[k]? with
  | none => rw [hx] at hp; cases hp
  | some m =>
    rw [hx] at hp
    injection hp with hp
    exact ⟨m, by rw [← hp]; exact parse_itoa (hm m (List.mem_of_getElem? hx))⟩
/-- numbers and zeros behind: five -/
theorem pad_five {ns : List Int} {k m : Nat} (h : ns.length = k) (hk : k + m = 5) : (ns ++ List.replicate m 0).length = 5 := by
  rw [List.length_append, List.length_replicate]; omega
theorem cells5 {w : World} {B c : Nat} {g : Nat} {x0 x1 x2 x3 x4 : Int} (h : Res B w 2 1 (some ⟨g, 0, none⟩) 5 c (intRows [x0, x1, x2, x3, x4])) : (w.cell? ⟨g, 0, none⟩ = some (.int .i64 x0) ∧ w.cell? ⟨g, 1, none⟩ = some (.int .i64 x1) ∧ w.cell? ⟨g, 2, none⟩ = some (.int .i64 x2) ∧ w.cell? ⟨g, 3, none⟩ = some (.int .i64 x3) ∧ w.cell? ⟨g, 4, none⟩ = some (.int .i64 x4)) ∧ g < w.heap.size := by
  have hr := h.rd
  have f : ∀ (k : Nat) (x : Int), [x0, x1, x2, x3, x4][k]? = some x → w.cell? ⟨g, k, none⟩ = some (.int .i64 x) := fun k x hx => by
    obtain ⟨ad, had, _, h9⟩ := hr.int_at hx
    injection had with had
    subst had
    rw [add_none, Nat.zero_add] at h9
    exact h9
  refine ⟨⟨f 0 _ rfl, f 1 _ rfl, f 2 _ rfl, f 3 _ rfl, f 4 _ rfl⟩, ?_⟩
  obtain ⟨ad, had, h8, _⟩ := hr.int_at (k := 0) (x := x0) rfl
  injection had with had
  subst had
  exact h8

set_option maxHeartbeats 8000000 in
set_option maxRecDepth 100000 in
theorem spec_ReadPolicy_any (s : ByteArray) (hs : s.size ≤ 100000) (w : World) :
    Calls Tryz.prog 25 #[.string s] w fun e w' => PolE s w w' e := by
  have HW0 := Lib.hid ((Below.refl w.heap.size w).alloc (Nat.le_refl _) (.cells #[.int .i64 0, .int .i64 0, .int .i64 0, .int .i64 0, .int .i64 0] 42))
  have HZ0 := Lib.hid (Blk.new w 42 #[.int .i64 0, .int .i64 0, .int .i64 0, .int .i64 0, .int .i64 0])
  go_enter Tryz.func25, Tryz.ntmps25
  go_upto_region 1 with (fail)
  generalize w.alloc _ = W at HW0 HZ0 ⊢
  have hWz : w.heap.size < W.heap.size := HZ0.out.lt
  go_wp2_with fail
  refine (spec_l01Split_any s 44 hs W).mono ?_
  rintro e wA ⟨A1, m1, c1, rfl, hm1, hRA, hbA⟩
  have HBA := Lib.hid hbA
  have hWA : w.heap.size < wA.heap.size := Nat.lt_of_lt_of_le hWz hbA.size
  have hml : m1 ≤ 1000000 := by
    have h1 := List.count_le_length (a := (44 : UInt8)) (l := s.data.toList)
    have h2 : s.data.toList.length = s.size := rfl
    rw [cutL_len] at hm1
    omega
  have HM1 := Lib.hid hm1
  clear hbA hm1
  go_wp2_with fail
  refine (spec_l01Numbers_full A1 m1 c1 (cutL 44 s.data.toList) wA HM1.out.symm hml hRA.rd).mono ?_
  rintro e w1 ⟨A, n, c, b, ns, rfl, hR, hyes, hno, hb2⟩
  have hb := HBA.out.trans (hb2.mono HBA.out.size)
  clear hRA hb2 HBA
  have HR := Lib.hid hR
  have HBB := Lib.hid (HW0.out.trans (hb.mono HW0.out.size))
  have HZ := Lib.hid (HZ0.out.below' hb)
  have hwl : w.heap.size < w1.heap.size := HZ.out.lt
  have HY := Lib.hid hyes
  have HN := Lib.hid hno
  have hln : ns.length = n := by have := hR.len; rwa [intRows_length] at this
  clear hR hb hyes hno HW0 HZ0
  cases b
  · have HNO := Lib.hid (fun (q : Policy) (hq : polA q = true) (hl : s.data.toList = intsL 44 q.nums) => (show False from (HN.out rfl).2 _ (pol_words hq hl).2.1 (pol_words hq hl).1))
    have H1c : Hid (∀ v ∈ ([.int .i64 0, .int .i64 0, .int .i64 0, .int .i64 0, .int .i64 0] : List Value), v.oneCell' = true) := Lib.hid (by simp [Value.oneCell'])
    go_wp2_with (refine wpList_store_agg rfl 42 _ _ rfl (w.heap.size) 0 [.int .i64 0, .int .i64 0, .int .i64 0, .int .i64 0, .int .i64 0] rfl rfl 42 #[.int .i64 0, .int .i64 0, .int .i64 0, .int .i64 0, .int .i64 0] HZ.out Policy.size (by simp) H1c.out ?_)
    intro w9 hR9 hg9 _
    have hR9' : Blk w9 w.heap.size 42 #[.int .i64 0, .int .i64 0, .int .i64 0, .int .i64 0, .int .i64 0] := hR9
    have r0 : w9.cell? ⟨w.heap.size, 0, none⟩ = some (.int .i64 0) := hR9'.cell 0
    have r1 : w9.cell? ⟨w.heap.size, 1, none⟩ = some (.int .i64 0) := hR9'.cell 1
    have r2 : w9.cell? ⟨w.heap.size, 2, none⟩ = some (.int .i64 0) := hR9'.cell 2
    have r3 : w9.cell? ⟨w.heap.size, 3, none⟩ = some (.int .i64 0) := hR9'.cell 3
    have r4 : w9.cell? ⟨w.heap.size, 4, none⟩ = some (.int .i64 0) := hR9'.cell 4
    go_wp2
    refine bodyPost_ret (v := .tuple #[.agg #[.int .i64 0, .int .i64 0, .int .i64 0, .int .i64 0, .int .i64 0], .bool false]) (by simp [results, Tryz.results25, go_sem, r0, r1, r2, r3, r4]) rfl ?_
    exact ⟨⟨0, 0, 0, 0, 0⟩, false, rfl, fits0, fun h => (by cases h), fun _ => rfl, fun q hq hl => (HNO.out q hq hl).elim, HBB.out.grown hg9 HBB.out.size (fun k hk => by injection hk with hk; omega)⟩
  have HNS := Lib.hid (HY.out rfl)
  have HIS := Lib.hid (fun (q : Policy) (hq : polA q = true) (hl : s.data.toList = intsL 44 q.nums) => (show ns = q.nums from by
    obtain ⟨h1, h2, h3⟩ := pol_words hq hl
    have h4 := HNS.out.forth _ h2 h1
    rw [h4, h1, List.length_map, List.take_length]))
  by_cases h5 : n = 5
  rotate_left
  · have h5i : ¬ (n : Int) = 5 := by omega
    have HNO := Lib.hid (fun (q : Policy) (hq : polA q = true) (hl : s.data.toList = intsL 44 q.nums) => (show False from by
      have h1 := HIS.out q hq hl
      have h2 : q.nums.length = 5 := rfl
      rw [← h1] at h2
      omega))
    have H1c : Hid (∀ v ∈ ([.int .i64 0, .int .i64 0, .int .i64 0, .int .i64 0, .int .i64 0] : List Value), v.oneCell' = true) := Lib.hid (by simp [Value.oneCell'])
    go_wp2_with (refine wpList_store_agg rfl 42 _ _ rfl (w.heap.size) 0 [.int .i64 0, .int .i64 0, .int .i64 0, .int .i64 0, .int .i64 0] rfl rfl 42 #[.int .i64 0, .int .i64 0, .int .i64 0, .int .i64 0, .int .i64 0] HZ.out Policy.size (by simp) H1c.out ?_)
    intro w9 hR9 hg9 _
    have hR9' : Blk w9 w.heap.size 42 #[.int .i64 0, .int .i64 0, .int .i64 0, .int .i64 0, .int .i64 0] := hR9
    have r0 : w9.cell? ⟨w.heap.size, 0, none⟩ = some (.int .i64 0) := hR9'.cell 0
    have r1 : w9.cell? ⟨w.heap.size, 1, none⟩ = some (.int .i64 0) := hR9'.cell 1
    have r2 : w9.cell? ⟨w.heap.size, 2, none⟩ = some (.int .i64 0) := hR9'.cell 2
    have r3 : w9.cell? ⟨w.heap.size, 3, none⟩ = some (.int .i64 0) := hR9'.cell 3
    have r4 : w9.cell? ⟨w.heap.size, 4, none⟩ = some (.int .i64 0) := hR9'.cell 4
    go_wp2
    refine bodyPost_ret (v := .tuple #[.agg #[.int .i64 0, .int .i64 0, .int .i64 0, .int .i64 0, .int .i64 0], .bool false]) (by simp [results, Tryz.results25, go_sem, r0, r1, r2, r3, r4]) rfl ?_
    exact ⟨⟨0, 0, 0, 0, 0⟩, false, rfl, fits0, fun h => (by cases h), fun _ => rfl, fun q hq hl => (HNO.out q hq hl).elim, HBB.out.grown hg9 HBB.out.size (fun k hk => by injection hk with hk; omega)⟩
  subst h5
  obtain ⟨x0, x1, x2, x3, x4, rfl⟩ := five hln
  have HFIT := Lib.hid (show Policy.fits ⟨x0, x1, x2, x3, x4⟩ from ⟨HNS.out.fit _ (by simp), HNS.out.fit _ (by simp), HNS.out.fit _ (by simp), HNS.out.fit _ (by simp), HNS.out.fit _ (by simp)⟩)
  have HTX := Lib.hid (show s.data.toList = intsL 44 (Policy.nums ⟨x0, x1, x2, x3, x4⟩) from words_ints (all_words HNS.out))
  obtain ⟨g, _, rfl, _, _, _, _⟩ := HR.out.at_ (by omega)
  go_upto_region 4 with (fail)
  obtain ⟨⟨k0, k1, k2, k3, k4⟩, hgl⟩ := cells5 HR.out
  go_cut [6] (fun p wx => ∃ G : Nat, p = .pointer (some ⟨G, 0, none⟩) ∧ w1.heap.size ≤ G ∧ Hid (Blk wx G 42 #[.int .i64 x0, .int .i64 x1, .int .i64 x2, .int .i64 x3, .int .i64 x4]) ∧ Hid (Below w1.heap.size w1 wx))
  case first =>
    go_region
    all_goals go_wp2_with fail
    all_goals go_meet
    all_goals first | exact ⟨_, rfl, Nat.le_refl _, Lib.hid ((Blk.new w1 _ _).drew), Lib.hid (((Below.refl w1.heap.size w1).alloc (Nat.le_refl _) _).drew)⟩ | exact ⟨_, rfl, Nat.le_refl _, Lib.hid (Blk.new w1.drew _ _), Lib.hid ((Below.refl w1.heap.size w1).drew.alloc (Nat.le_refl _) _)⟩ | exact ⟨_, rfl, Nat.le_refl _, Lib.hid (Blk.new w1 _ _), Lib.hid ((Below.refl w1.heap.size w1).alloc (Nat.le_refl _) _)⟩
  obtain ⟨G, rfl, hG, HKG, HBG⟩ := hcut
  clear k0 k1 k2 k3 k4
  have HZc := Lib.hid (HZ.out.below' HBG.out)
  have HBc := Lib.hid (HBB.out.trans (HBG.out.mono HBB.out.size))
  have hcO := Lib.hid (Blk.agg (cs := [.int .i64 x0, .int .i64 x1, .int .i64 x2, .int .i64 x3, .int .i64 x4]) HKG.out 0 [.int .i64 x0, .int .i64 x1, .int .i64 x2, .int .i64 x3, .int .i64 x4] rfl)
  go_wp2_with (refine wpList_load_agg rfl 42 _ rfl ⟨G, 0, none⟩ rfl [.int .i64 x0, .int .i64 x1, .int .i64 x2, .int .i64 x3, .int .i64 x4] hcO.out _ Tryz.underlying42 rfl Policy.size ?_)
  refine (spec_PolicyText_any ⟨x0, x1, x2, x3, x4⟩ wc).mono ?_
  rintro e w2 ⟨rfl, hb2⟩
  have HZ2 := Lib.hid (HZc.out.below' hb2); have HK2 := Lib.hid (HKG.out.below' hb2)
  have HB2 := Lib.hid (HBc.out.trans (hb2.mono HBc.out.size))
  clear hcO hb2 HZc HBc HKG HBG HZ HBB
  cases ha : polA ⟨x0, x1, x2, x3, x4⟩
  · have hse : (S (polT ⟨x0, x1, x2, x3, x4⟩)).toList.isEmpty = true := by rw [polT_no ha, ByteArray.toList_eq, S_list]; rfl
    have HNO := Lib.hid (fun (q : Policy) (hq : polA q = true) (hl : s.data.toList = intsL 44 q.nums) => (show False from by
      have h1 := nums_inj (p := ⟨x0, x1, x2, x3, x4⟩) (HIS.out q hq hl)
      rw [← h1, ha] at hq
      cases hq))
    clear ha
    have H1c : Hid (∀ v ∈ ([.int .i64 0, .int .i64 0, .int .i64 0, .int .i64 0, .int .i64 0] : List Value), v.oneCell' = true) := Lib.hid (by simp [Value.oneCell'])
    go_wp2_with (refine wpList_store_agg rfl 42 _ _ rfl (w.heap.size) 0 [.int .i64 0, .int .i64 0, .int .i64 0, .int .i64 0, .int .i64 0] rfl rfl 42 #[.int .i64 0, .int .i64 0, .int .i64 0, .int .i64 0, .int .i64 0] HZ2.out Policy.size (by simp) H1c.out ?_)
    intro w9 hR9 hg9 _
    have hR9' : Blk w9 w.heap.size 42 #[.int .i64 0, .int .i64 0, .int .i64 0, .int .i64 0, .int .i64 0] := hR9
    have r0 : w9.cell? ⟨w.heap.size, 0, none⟩ = some (.int .i64 0) := hR9'.cell 0
    have r1 : w9.cell? ⟨w.heap.size, 1, none⟩ = some (.int .i64 0) := hR9'.cell 1
    have r2 : w9.cell? ⟨w.heap.size, 2, none⟩ = some (.int .i64 0) := hR9'.cell 2
    have r3 : w9.cell? ⟨w.heap.size, 3, none⟩ = some (.int .i64 0) := hR9'.cell 3
    have r4 : w9.cell? ⟨w.heap.size, 4, none⟩ = some (.int .i64 0) := hR9'.cell 4
    go_wp2
    refine bodyPost_ret (v := .tuple #[.agg #[.int .i64 0, .int .i64 0, .int .i64 0, .int .i64 0, .int .i64 0], .bool false]) (by simp [results, Tryz.results25, go_sem, r0, r1, r2, r3, r4]) rfl ?_
    exact ⟨⟨0, 0, 0, 0, 0⟩, false, rfl, fits0, fun h => (by cases h), fun _ => rfl, fun q hq hl => (HNO.out q hq hl).elim, HB2.out.grown hg9 HB2.out.size (fun k hk => by injection hk with hk; omega)⟩
  · have hse : (S (polT ⟨x0, x1, x2, x3, x4⟩)).toList.isEmpty = false := isEmptyS2 (polT_ne ha)
    have HPA := Lib.hid ha
    clear ha
    have hcO := Lib.hid (Blk.agg (cs := [.int .i64 x0, .int .i64 x1, .int .i64 x2, .int .i64 x3, .int .i64 x4]) HK2.out 0 [.int .i64 x0, .int .i64 x1, .int .i64 x2, .int .i64 x3, .int .i64 x4] rfl)
    have H1c : Hid (∀ v ∈ ([.int .i64 x0, .int .i64 x1, .int .i64 x2, .int .i64 x3, .int .i64 x4] : List Value), v.oneCell' = true) := Lib.hid (by simp [Value.oneCell'])
    go_wp2_with (first | (refine wpList_load_agg rfl 42 _ rfl ⟨G, 0, none⟩ rfl [.int .i64 x0, .int .i64 x1, .int .i64 x2, .int .i64 x3, .int .i64 x4] hcO.out _ Tryz.underlying42 rfl Policy.size ?_) | (refine wpList_store_agg rfl 42 _ _ rfl (w.heap.size) 0 [.int .i64 x0, .int .i64 x1, .int .i64 x2, .int .i64 x3, .int .i64 x4] rfl rfl 42 #[.int .i64 0, .int .i64 0, .int .i64 0, .int .i64 0, .int .i64 0] HZ2.out Policy.size (by simp) H1c.out ?_))
    intro w9 hR9 hg9 _
    have hR9' : Blk w9 w.heap.size 42 #[.int .i64 x0, .int .i64 x1, .int .i64 x2, .int .i64 x3, .int .i64 x4] := hR9
    have r0 : w9.cell? ⟨w.heap.size, 0, none⟩ = some (.int .i64 x0) := hR9'.cell 0
    have r1 : w9.cell? ⟨w.heap.size, 1, none⟩ = some (.int .i64 x1) := hR9'.cell 1
    have r2 : w9.cell? ⟨w.heap.size, 2, none⟩ = some (.int .i64 x2) := hR9'.cell 2
    have r3 : w9.cell? ⟨w.heap.size, 3, none⟩ = some (.int .i64 x3) := hR9'.cell 3
    have r4 : w9.cell? ⟨w.heap.size, 4, none⟩ = some (.int .i64 x4) := hR9'.cell 4
    go_wp2
    refine bodyPost_ret (v := .tuple #[.agg #[.int .i64 x0, .int .i64 x1, .int .i64 x2, .int .i64 x3, .int .i64 x4], .bool true]) (by simp [results, Tryz.results25, go_sem, r0, r1, r2, r3, r4]) rfl ?_
    exact ⟨⟨x0, x1, x2, x3, x4⟩, true, rfl, HFIT.out, fun _ => ⟨HPA.out, HTX.out⟩, fun h => (by cases h), fun q hq hl => ⟨nums_inj (HIS.out q hq hl), rfl⟩, HB2.out.grown hg9 HB2.out.size (fun k hk => by injection hk with hk; omega)⟩

set_option maxHeartbeats 8000000 in
set_option maxRecDepth 100000 in
theorem impl_ReadPolicy_any (s : ByteArray) (hs : s.size ≤ 100000) (w : World) (hE : Env w) :
    Calls Tryz.prog 23 #[.string s] w fun e w' => PolE s w w' e := by
  obtain ⟨i0, hi0, hj0, hj1, hj2⟩ := info_parts Int64.info
  have hmk : ∀ (X : World) (m : Nat), m ≤ 5 → (Instr.makeSlice 24 (.int .i64 (m : Int)) (.int .i64 (m : Int))).run Tryz.prog X = .ok (.slice (some ⟨X.heap.size, 0, none⟩) m m) (X.alloc (.cells (zeroP m) 2)) := fun X m hm => by
    have h := run_make_rowN (P := Tryz.prog) 24 2 i0 _ Tryz.underlying24 hi0 hj0 .i64 .i64 m m (Nat.le_refl _) (by rw [hj2]; omega) (by omega) X
    rw [hj1] at h
    exact h
  have HMK := Lib.hid hmk; clear hmk
  have HI := Lib.hid (And.intro hi0 (And.intro hj0 (And.intro hj1 hj2))); clear hi0 hj0 hj1 hj2
  have HLL := Lib.hid (show s.data.toList.length = s.size from rfl)
  have HE := Lib.hid hE; clear hE
  have HW00 := Lib.hid ((Below.refl w.heap.size w).alloc (Nat.le_refl _) (.cells #[.int .i64 0, .int .i64 0, .int .i64 0, .int .i64 0, .int .i64 0] 42))
  have HZ00 := Lib.hid (Blk.new w 42 #[.int .i64 0, .int .i64 0, .int .i64 0, .int .i64 0, .int .i64 0])
  go_enter Tryz.func23, Tryz.ntmps23
  go_upto_region 1 with (fail)
  have hz00 : (w.alloc (.cells #[.int .i64 0, .int .i64 0, .int .i64 0, .int .i64 0, .int .i64 0] 42)).heap.size = w.heap.size + 1 := by simp
  generalize w.alloc _ = W0 at HW00 HZ00 hz00 ⊢
  have HR0 := Lib.hid (show Res (w.heap.size + 1) (W0.alloc (.cells #[] 2)) 2 1 (some ⟨W0.heap.size, 0, none⟩) 0 0 (intRows []) from Res.zero W0 (w.heap.size + 1) 2 1 (by omega))
  have HW0 := Lib.hid (HW00.out.alloc HW00.out.size (.cells #[] 2))
  have HZ0 := Lib.hid (HZ00.out.alloc (.cells #[] 2))
  have hz0 : (W0.alloc (.cells #[] 2)).heap.size = w.heap.size + 2 := by simp [hz00]
  clear HW00 HZ00
  go_wp2_with fail
  generalize hWW : W0.alloc (.cells #[] 2) = W at HW0 HR0 HZ0 hz0 ⊢
  clear hWW
  obtain ⟨mx, hmx⟩ := (HE.out.past HW0.out).mx
  refine (Tryz.strings_Split s ⟨#[44]⟩ mx W (by omega) hmx (by show 1 ≤ 1; omega)).mono ?_
  rw [splitB_cut, countB_one]
  rintro e w1 ⟨rfl, rfl⟩
  clear hmx
  obtain ⟨ws, hws⟩ : ∃ ws, cutL 44 s.data.toList = ws := ⟨_, rfl⟩
  have HWN := Lib.hid (List.length_pos_iff.2 (cutL_ne 44 s.data.toList))
  have HWL := Lib.hid (cutL_le 44 s.data.toList)
  have HCL := Lib.hid (show (cutL 44 s.data.toList).length ≤ 100001 by rw [cutL_len]; have := List.count_le_length (a := (44 : UInt8)) (l := s.data.toList); have := HLL.out; omega)
  rw [hws] at HWL HCL HWN ⊢
  have HWS := Lib.hid hws; clear hws
  obtain ⟨n, hn⟩ : ∃ n, ws.length = n := ⟨_, rfl⟩
  have hn1 : 1 ≤ n := by have := HWN.out; omega
  have hn2 : n ≤ 100001 := by have := HCL.out; omega
  have HLN := Lib.hid hn
  have HPW := Lib.hid (fun (q : Policy) (hq : polA q = true) (hl : s.data.toList = intsL 44 q.nums) => (show ws = q.nums.map Lib.itoa ∧ (∀ m ∈ q.nums, -9999999999999 ≤ m ∧ m ≤ 9999999999999) ∧ n = 5 from by
    obtain ⟨h1, h2, h3⟩ := pol_words hq hl
    rw [HWS.out] at h1
    refine ⟨h1, h2, ?_⟩
    rw [← HLN.out, h1, List.length_map]; exact h3))
  have HB1 := Lib.hid (HW0.out.alloc HW0.out.size (.cells ((ws.map S).map Value.string).toArray 9))
  have HR1 := Lib.hid (HR0.out.past ((Below.refl W.heap.size W).alloc (Nat.le_refl _) (.cells ((ws.map S).map Value.string).toArray 9)))
  have HZ1 := Lib.hid (HZ0.out.alloc (.cells ((ws.map S).map Value.string).toArray 9))
  have HWC := Lib.hid (fun k x (h : ws[k]? = some x) => wordsCell (w := W) h)
  have HLE := Lib.hid (fun k (x : List UInt8) (h : ws[k]? = some x) => (show x.length ≤ 100000 by
    have h1 := HWL.out x (List.mem_of_getElem? h)
    have h2 := HLL.out
    omega))
  rw [hn]
  have hz1 : (W.alloc (.cells ((ws.map S).map Value.string).toArray 9)).heap.size = w.heap.size + 3 := by simp [hz0]
  rw [hz0] at HWC ⊢
  rw [hz00] at HR1
  generalize W.alloc (.cells ((ws.map S).map Value.string).toArray 9) = W1 at HB1 HR1 HZ1 HWC hz1 ⊢
  clear HR0 HW0 HZ0 HWL HCL HWN hn hz0 hz00
  go_wp2
  go_loopw [4, 14] (fun o i wr => ∃ (k cap : Nat) (A : Option Addr) (ns : List Int), k ≤ n ∧ k ≤ 5 ∧ i = .int .i64 k ∧ o = .slice A k cap ∧ Hid (Res (w.heap.size + 1) wr 2 1 A k cap (intRows ns)) ∧ Hid (Prs ws ns k) ∧ Hid (∀ j x, ws[j]? = some x → wr.cell? ⟨w.heap.size + 2, j, none⟩ = some (.string (S x))) ∧ Hid (blkOf A ≠ some (w.heap.size + 2)) ∧ Hid (Blk wr w.heap.size 42 #[.int .i64 0, .int .i64 0, .int .i64 0, .int .i64 0, .int .i64 0]) ∧ Hid (Below w.heap.size w wr) ∧ w.heap.size + 3 ≤ wr.heap.size) (fun _ i _ => n - (intOf i).toNat)
  case atStart => exact ⟨0, 0, _, [], by omega, by omega, rfl, rfl, HR1, Lib.hid (Prs.nil ws), HWC, Lib.hid (by simp [blkOf]), HZ1, HB1, by omega⟩
  case round =>
    obtain ⟨k, cap, A, ns, hk, hk5, rfl, rfl, HR, HNS, HC, HNB, HZ, HB, hzr⟩ := hrel
    clear HR1 HWC HB1 HZ1
    by_cases hlt : k < n
    · obtain ⟨l, hl⟩ := get_of_lt (xs := ws) (k := k) (by rw [HLN.out]; exact hlt)
      have hki : (k : Int) < (n : Int) := by omega
      have cl := HC.out k l hl
      obtain ⟨sl, hsl⟩ : ∃ sl, S l = sl := ⟨_, rfl⟩
      rw [hsl] at cl
      have hlz : sl.size ≤ 1000000 := by have := HLE.out k l hl; rw [← hsl, S_size]; omega
      have HSL := Lib.hid (show sl.data.toList = l from by rw [← hsl]; exact S_list l)
      have Hl := Lib.hid hl
      clear hsl hl
      go_wp2_with fail
      refine (parse_full sl hlz wr (HE.out.past HB.out)).mono ?_
      rw [HSL.out]
      rintro e w2 ⟨v, ev, rfl, hv, hev, hp, hq, hb⟩
      have HP := Lib.hid hp; have HQ := Lib.hid hq; have HV := Lib.hid hv
      have HB2 := Lib.hid (HB.out.trans (hb.mono HB.out.size))
      have HR2 := Lib.hid (HR.out.past hb)
      have HZ2 := Lib.hid (HZ.out.below' hb)
      have hz2 : w.heap.size + 3 ≤ w2.heap.size := Nat.le_trans hzr hb.size
      have HC2 := Lib.hid (show ∀ j x, ws[j]? = some x → w2.cell? ⟨w.heap.size + 2, j, none⟩ = some (.string (S x)) from fun j x h => (hb.cell (show w.heap.size + 2 < wr.heap.size by omega)).trans (HC.out j x h))
      clear hp hq hv hb cl HR HC HZ HB
      rcases hev with rfl | ⟨te, N, rfl⟩
      rotate_left
      · have HNO := Lib.hid (fun (q : Policy) (hq : polA q = true) (hl : s.data.toList = intsL 44 q.nums) => (show False from by
          obtain ⟨h1, h2, _⟩ := HPW.out q hq hl
          obtain ⟨m, hm⟩ := word_in h1 Hl.out h2
          have := (HP.out m hm).2
          cases this))
        have H1c : Hid (∀ v ∈ ([.int .i64 0, .int .i64 0, .int .i64 0, .int .i64 0, .int .i64 0] : List Value), v.oneCell' = true) := Lib.hid (by simp [Value.oneCell'])
        go_wp2_with (refine wpList_store_agg rfl 42 _ _ rfl (w.heap.size) 0 [.int .i64 0, .int .i64 0, .int .i64 0, .int .i64 0, .int .i64 0] rfl rfl 42 #[.int .i64 0, .int .i64 0, .int .i64 0, .int .i64 0, .int .i64 0] HZ2.out Policy.size (by simp) H1c.out ?_)
        intro w9 hR9 hg9 _
        have hR9' : Blk w9 w.heap.size 42 #[.int .i64 0, .int .i64 0, .int .i64 0, .int .i64 0, .int .i64 0] := hR9
        have r0 : w9.cell? ⟨w.heap.size, 0, none⟩ = some (.int .i64 0) := hR9'.cell 0
        have r1 : w9.cell? ⟨w.heap.size, 1, none⟩ = some (.int .i64 0) := hR9'.cell 1
        have r2 : w9.cell? ⟨w.heap.size, 2, none⟩ = some (.int .i64 0) := hR9'.cell 2
        have r3 : w9.cell? ⟨w.heap.size, 3, none⟩ = some (.int .i64 0) := hR9'.cell 3
        have r4 : w9.cell? ⟨w.heap.size, 4, none⟩ = some (.int .i64 0) := hR9'.cell 4
        go_wp2
        refine bodyPost_ret (v := .tuple #[.agg #[.int .i64 0, .int .i64 0, .int .i64 0, .int .i64 0, .int .i64 0], .bool false]) (by simp [results, Tryz.results23, go_sem, r0, r1, r2, r3, r4]) rfl ?_
        exact ⟨⟨0, 0, 0, 0, 0⟩, false, rfl, fits0, fun h => (by cases h), fun _ => rfl, fun q hq hl => (HNO.out q hq hl).elim, HB2.out.grown hg9 HB2.out.size (fun k hk => by injection hk with hk; omega)⟩
      by_cases h5 : k = 5
      · have h5i : (k : Int) = 5 := by omega
        have HNO := Lib.hid (fun (q : Policy) (hq : polA q = true) (hl : s.data.toList = intsL 44 q.nums) => (show False from by
          have := (HPW.out q hq hl).2.2
          omega))
        have H1c : Hid (∀ v ∈ ([.int .i64 0, .int .i64 0, .int .i64 0, .int .i64 0, .int .i64 0] : List Value), v.oneCell' = true) := Lib.hid (by simp [Value.oneCell'])
        go_wp2_with (refine wpList_store_agg rfl 42 _ _ rfl (w.heap.size) 0 [.int .i64 0, .int .i64 0, .int .i64 0, .int .i64 0, .int .i64 0] rfl rfl 42 #[.int .i64 0, .int .i64 0, .int .i64 0, .int .i64 0, .int .i64 0] HZ2.out Policy.size (by simp) H1c.out ?_)
        intro w9 hR9 hg9 _
        have hR9' : Blk w9 w.heap.size 42 #[.int .i64 0, .int .i64 0, .int .i64 0, .int .i64 0, .int .i64 0] := hR9
        have r0 : w9.cell? ⟨w.heap.size, 0, none⟩ = some (.int .i64 0) := hR9'.cell 0
        have r1 : w9.cell? ⟨w.heap.size, 1, none⟩ = some (.int .i64 0) := hR9'.cell 1
        have r2 : w9.cell? ⟨w.heap.size, 2, none⟩ = some (.int .i64 0) := hR9'.cell 2
        have r3 : w9.cell? ⟨w.heap.size, 3, none⟩ = some (.int .i64 0) := hR9'.cell 3
        have r4 : w9.cell? ⟨w.heap.size, 4, none⟩ = some (.int .i64 0) := hR9'.cell 4
        go_wp2
        refine bodyPost_ret (v := .tuple #[.agg #[.int .i64 0, .int .i64 0, .int .i64 0, .int .i64 0, .int .i64 0], .bool false]) (by simp [results, Tryz.results23, go_sem, r0, r1, r2, r3, r4]) rfl ?_
        exact ⟨⟨0, 0, 0, 0, 0⟩, false, rfl, fits0, fun h => (by cases h), fun _ => rfl, fun q hq hl => (HNO.out q hq hl).elim, HB2.out.grown hg9 HB2.out.size (fun k hk => by injection hk with hk; omega)⟩
      have h5i : ¬ (k : Int) = 5 := by omega
      have HN2 := Lib.hid (HNS.out.snoc Hl.out HV.out (HQ.out rfl))
      have hbsz : w.heap.size + 1 ≤ w2.heap.size := by omega
      go_wp2_with (at_builtin; refine wpList_append_row_at _ rfl _ _ _ rfl (w.heap.size + 1) 2 i0 _ 1 8 Tryz.underlying24 HI.out.1 HI.out.2.1 HI.out.2.2.1 HI.out.2.2.2 rfl (by decide) (by decide) A k cap _ rfl HR2.out [.int .i64 v] _ rfl rfl (by simp [Value.oneCell']) (by omega) hbsz ?_; intro A9 c9 w9 hR9 hb9 hkb hbk)
      rw [← intRows_snoc] at hR9
      have HR9 := Lib.hid hR9
      have HB9 := Lib.hid (HB2.out.trans (hb9.mono (Nat.le_succ _)))
      have HZ9 := Lib.hid (HZ2.out.below hb9 (Nat.lt_succ_self _))
      have HC9 := Lib.hid (show ∀ j x, ws[j]? = some x → w9.cell? ⟨w.heap.size + 2, j, none⟩ = some (.string (S x)) from fun j x h => (World.cell?_of_block (hkb (w.heap.size + 2) (by omega) (fun h9 => HNB.out h9.symm))).trans (HC2.out j x h))
      have HNB9 := Lib.hid (show blkOf A9 ≠ some (w.heap.size + 2) from fun h9 => by
        rcases hbk with h8 | h8
        · exact HNB.out (h8.symm.trans h9)
        · rw [h8] at h9; injection h9; omega)
      have hz9 : w.heap.size + 3 ≤ w9.heap.size := Nat.le_trans hz2 hb9.size
      clear hR9 hb9 hkb hbk
      go_wp2
      go_roundw
      case rel => exact ⟨k + 1, c9, A9, ns ++ [v], by omega, by omega, by go_num, rfl, HR9, HN2, HC9, HNB9, HZ9, HB9, hz9⟩
      case measure => simp [intOf]; omega
    · have hkn : k = n := by omega
      subst hkn
      clear HC HNB hlt
      have HNS5 := Lib.hid (show Prs ws ns ws.length from by rw [HLN.out]; exact HNS.out)
      obtain ⟨m, hm⟩ : ∃ m : Nat, k + m = 5 := ⟨5 - k, by omega⟩
      have HM := Lib.hid hm
      have hm5 : (5 : Int) - (k : Int) = (m : Int) := by omega
      have hmk := HMK.out wr m (by omega)
      have hln : ns.length = k := HNS.out.len
      have HLNS := Lib.hid hln
      clear hm hln
      have hal1 : Below wr.heap.size wr (wr.alloc (.cells (zeroP m) 2)) := (Below.refl _ _).alloc (Nat.le_refl _) _
      have HRZ := Lib.hid (Res.madeP wr wr.heap.size m 2 (Nat.le_refl _) (by have := HM.out; omega))
      have HRN := Lib.hid (HR.out.past hal1)
      have HZN := Lib.hid (HZ.out.below' hal1)
      have HBN := Lib.hid (HB.out.trans (hal1.mono HB.out.size))
      have hzn : w.heap.size < (wr.alloc (.cells (zeroP m) 2)).heap.size := HZN.out.lt
      have hv1 : (wr.alloc (.cells (zeroP m) 2)).heap.size = wr.heap.size + 1 := by simp
      clear hal1
      go_wp2_with fail
      clear hmk hm5
      generalize wr.alloc (.cells (zeroP m) 2) = V1 at HRZ HRN HZN HBN hzn hv1 ⊢
      generalize wr.heap.size = gz at HRZ hv1 ⊢
      clear HR HZ HB hzr
      have hal2 : Below V1.heap.size V1 (V1.alloc (.cells #[.slice A k cap, .slice (some ⟨gz, 0, none⟩) m m] 24)) := (Below.refl _ _).alloc (Nat.le_refl _) _
      have HL2 := Lib.hid (Blk.new V1 24 #[.slice A k cap, .slice (some ⟨gz, 0, none⟩) m m])
      have HRZ2 := Lib.hid (HRZ.out.past hal2); have HRN2 := Lib.hid (HRN.out.past hal2); have HZN2 := Lib.hid (HZN.out.below' hal2)
      have HBN2 := Lib.hid (HBN.out.trans (hal2.mono HBN.out.size))
      clear HRZ HRN HZN HBN hal2
      generalize V1.alloc (.cells #[.slice A k cap, .slice (some ⟨gz, 0, none⟩) m m] 24) = V2 at HL2 HRZ2 HRN2 HZN2 HBN2 ⊢
      rw [hv1] at HL2
      clear hv1 hzn
      refine (concat5_any (gz + 1) A k cap ns (some ⟨gz, 0, none⟩) m m (List.replicate m 0) V2 (HL2.out.cell 0) (HL2.out.cell 1) HRN2.out.rd HLNS.out HRZ2.out.rd (by simp) HM.out).mono ?_
      rintro e V3 ⟨A5, c5, rfl, hR5, hb⟩
      have HR5 := Lib.hid hR5
      have HZ5 := Lib.hid (HZN2.out.below' hb)
      have HB5 := Lib.hid (HBN2.out.trans (hb.mono HBN2.out.size))
      have HE5 := Lib.hid (HE.out.past HB5.out)
      clear hR5 hb HL2 HRZ2 HRN2 HZN2 HBN2
      obtain ⟨ps, hps⟩ : ∃ ps, ns ++ List.replicate m 0 = ps := ⟨_, rfl⟩
      have hpl : ps.length = 5 := by rw [← hps]; exact pad_five HLNS.out HM.out
      have HFP := Lib.hid (show ∀ x ∈ ps, In64 x from by
        intro x hx
        rw [← hps] at hx
        rcases List.mem_append.1 hx with hx | hx
        · exact HNS5.out.fit x hx
        · rw [List.eq_of_mem_replicate hx]; unfold In64; omega)
      rw [hps] at HR5
      have HPS := Lib.hid hps; clear hps
      obtain ⟨x0, x1, x2, x3, x4, rfl⟩ := five hpl
      have HFIT := Lib.hid (show Policy.fits ⟨x0, x1, x2, x3, x4⟩ from ⟨HFP.out _ (by simp), HFP.out _ (by simp), HFP.out _ (by simp), HFP.out _ (by simp), HFP.out _ (by simp)⟩)
      have HIS := Lib.hid (fun (q : Policy) (hq : polA q = true) (hl : s.data.toList = intsL 44 q.nums) => (show (⟨x0, x1, x2, x3, x4⟩ : Policy) = q from by
        obtain ⟨h1, h2, h3⟩ := HPW.out q hq hl
        have h4 := HNS5.out.is h1 h2
        have h5 : m = 0 := by have := HM.out; omega
        have h6 := HPS.out
        rw [h5, h4, List.replicate_zero, List.append_nil] at h6
        exact nums_inj (p := ⟨x0, x1, x2, x3, x4⟩) h6.symm))
      obtain ⟨g, _, rfl, _, _, _, _⟩ := HR5.out.at_ (by omega)
      clear hpl
      go_upto_region 11 with (fail)
      obtain ⟨⟨k0, k1, k2, k3, k4⟩, hgl⟩ := cells5 HR5.out
      go_cut [9] (fun p wx => ∃ G : Nat, p = .pointer (some ⟨G, 0, none⟩) ∧ V3.heap.size ≤ G ∧ Hid (Blk wx G 42 #[.int .i64 x0, .int .i64 x1, .int .i64 x2, .int .i64 x3, .int .i64 x4]) ∧ Hid (Below V3.heap.size V3 wx))
      case first =>
        go_region
        all_goals go_wp2_with fail
        all_goals go_meet
        all_goals first | exact ⟨_, rfl, Nat.le_refl _, Lib.hid ((Blk.new V3 _ _).drew), Lib.hid (((Below.refl V3.heap.size V3).alloc (Nat.le_refl _) _).drew)⟩ | exact ⟨_, rfl, Nat.le_refl _, Lib.hid (Blk.new V3.drew _ _), Lib.hid ((Below.refl V3.heap.size V3).drew.alloc (Nat.le_refl _) _)⟩ | exact ⟨_, rfl, Nat.le_refl _, Lib.hid (Blk.new V3 _ _), Lib.hid ((Below.refl V3.heap.size V3).alloc (Nat.le_refl _) _)⟩
      obtain ⟨G, rfl, hG, HKG, HBG⟩ := hcut
      clear k0 k1 k2 k3 k4
      have HZc := Lib.hid (HZ5.out.below' HBG.out)
      have HBc := Lib.hid (HB5.out.trans (HBG.out.mono HB5.out.size))
      have hcO := Lib.hid (Blk.agg (cs := [.int .i64 x0, .int .i64 x1, .int .i64 x2, .int .i64 x3, .int .i64 x4]) HKG.out 0 [.int .i64 x0, .int .i64 x1, .int .i64 x2, .int .i64 x3, .int .i64 x4] rfl)
      go_wp2_with (refine wpList_load_agg rfl 42 _ rfl ⟨G, 0, none⟩ rfl [.int .i64 x0, .int .i64 x1, .int .i64 x2, .int .i64 x3, .int .i64 x4] hcO.out _ Tryz.underlying42 rfl Policy.size ?_)
      refine (impl_PolicyText_any ⟨x0, x1, x2, x3, x4⟩ wc (HE5.out.past HBG.out)).mono ?_
      rintro e v2 ⟨rfl, hb2⟩
      have HZ2 := Lib.hid (HZc.out.below' hb2); have HK2 := Lib.hid (HKG.out.below' hb2)
      have HB2 := Lib.hid (HBc.out.trans (hb2.mono HBc.out.size))
      clear hcO hb2 HZc HBc HKG HBG HZ5 HB5
      by_cases hq : S (polT ⟨x0, x1, x2, x3, x4⟩) = s
      rotate_left
      · have hql := str_ne hq
        have HNO := Lib.hid (fun (q : Policy) (hqa : polA q = true) (hl : s.data.toList = intsL 44 q.nums) => (show False from by
          have h1 := HIS.out q hqa hl
          apply hq
          rw [h1, polT_yes hqa, ← hl]
          exact S_of s))
        clear hq
        have H1c : Hid (∀ v ∈ ([.int .i64 0, .int .i64 0, .int .i64 0, .int .i64 0, .int .i64 0] : List Value), v.oneCell' = true) := Lib.hid (by simp [Value.oneCell'])
        go_wp2_with (refine wpList_store_agg rfl 42 _ _ rfl (w.heap.size) 0 [.int .i64 0, .int .i64 0, .int .i64 0, .int .i64 0, .int .i64 0] rfl rfl 42 #[.int .i64 0, .int .i64 0, .int .i64 0, .int .i64 0, .int .i64 0] HZ2.out Policy.size (by simp) H1c.out ?_)
        intro w9 hR9 hg9 _
        have hR9' : Blk w9 w.heap.size 42 #[.int .i64 0, .int .i64 0, .int .i64 0, .int .i64 0, .int .i64 0] := hR9
        have r0 : w9.cell? ⟨w.heap.size, 0, none⟩ = some (.int .i64 0) := hR9'.cell 0
        have r1 : w9.cell? ⟨w.heap.size, 1, none⟩ = some (.int .i64 0) := hR9'.cell 1
        have r2 : w9.cell? ⟨w.heap.size, 2, none⟩ = some (.int .i64 0) := hR9'.cell 2
        have r3 : w9.cell? ⟨w.heap.size, 3, none⟩ = some (.int .i64 0) := hR9'.cell 3
        have r4 : w9.cell? ⟨w.heap.size, 4, none⟩ = some (.int .i64 0) := hR9'.cell 4
        go_wp2
        refine bodyPost_ret (v := .tuple #[.agg #[.int .i64 0, .int .i64 0, .int .i64 0, .int .i64 0, .int .i64 0], .bool false]) (by simp [results, Tryz.results23, go_sem, r0, r1, r2, r3, r4]) rfl ?_
        exact ⟨⟨0, 0, 0, 0, 0⟩, false, rfl, fits0, fun h => (by cases h), fun _ => rfl, fun q hq hl => (HNO.out q hq hl).elim, HB2.out.grown hg9 HB2.out.size (fun k hk => by injection hk with hk; omega)⟩
      · have hql := str_eq hq
        have HQ := Lib.hid hq; clear hq
        have HPA := Lib.hid (show polA ⟨x0, x1, x2, x3, x4⟩ = true from by
          cases ha : polA ⟨x0, x1, x2, x3, x4⟩
          · have h1 := HQ.out
            rw [polT_no ha] at h1
            have h2 : s.data.toList = [] := by rw [← h1]; exact S_list []
            have h3 : ws = [[]] := by rw [← HWS.out, h2]; rfl
            have h4 : ns.length = 1 := by rw [HNS5.out.len, h3]; rfl
            obtain ⟨y, hy⟩ := get_of_lt (xs := ns) (k := 0) (by omega)
            exact absurd (HNS5.out.ok 0 y [] hy (by rw [h3]; rfl)) (parse_nil y)
          · rfl)
        have HTX := Lib.hid (show s.data.toList = intsL 44 (Policy.nums ⟨x0, x1, x2, x3, x4⟩) from by rw [← HQ.out, S_list, polT_yes HPA.out])
        have hcO := Lib.hid (Blk.agg (cs := [.int .i64 x0, .int .i64 x1, .int .i64 x2, .int .i64 x3, .int .i64 x4]) HK2.out 0 [.int .i64 x0, .int .i64 x1, .int .i64 x2, .int .i64 x3, .int .i64 x4] rfl)
        have H1c : Hid (∀ v ∈ ([.int .i64 x0, .int .i64 x1, .int .i64 x2, .int .i64 x3, .int .i64 x4] : List Value), v.oneCell' = true) := Lib.hid (by simp [Value.oneCell'])
        go_wp2_with (first | (refine wpList_load_agg rfl 42 _ rfl ⟨G, 0, none⟩ rfl [.int .i64 x0, .int .i64 x1, .int .i64 x2, .int .i64 x3, .int .i64 x4] hcO.out _ Tryz.underlying42 rfl Policy.size ?_) | (refine wpList_store_agg rfl 42 _ _ rfl (w.heap.size) 0 [.int .i64 x0, .int .i64 x1, .int .i64 x2, .int .i64 x3, .int .i64 x4] rfl rfl 42 #[.int .i64 0, .int .i64 0, .int .i64 0, .int .i64 0, .int .i64 0] HZ2.out Policy.size (by simp) H1c.out ?_))
        intro w9 hR9 hg9 _
        have hR9' : Blk w9 w.heap.size 42 #[.int .i64 x0, .int .i64 x1, .int .i64 x2, .int .i64 x3, .int .i64 x4] := hR9
        have r0 : w9.cell? ⟨w.heap.size, 0, none⟩ = some (.int .i64 x0) := hR9'.cell 0
        have r1 : w9.cell? ⟨w.heap.size, 1, none⟩ = some (.int .i64 x1) := hR9'.cell 1
        have r2 : w9.cell? ⟨w.heap.size, 2, none⟩ = some (.int .i64 x2) := hR9'.cell 2
        have r3 : w9.cell? ⟨w.heap.size, 3, none⟩ = some (.int .i64 x3) := hR9'.cell 3
        have r4 : w9.cell? ⟨w.heap.size, 4, none⟩ = some (.int .i64 x4) := hR9'.cell 4
        go_wp2
        refine bodyPost_ret (v := .tuple #[.agg #[.int .i64 x0, .int .i64 x1, .int .i64 x2, .int .i64 x3, .int .i64 x4], .bool true]) (by simp [results, Tryz.results23, go_sem, r0, r1, r2, r3, r4]) rfl ?_
        exact ⟨⟨x0, x1, x2, x3, x4⟩, true, rfl, HFIT.out, fun _ => ⟨HPA.out, HTX.out⟩, fun h => (by cases h), fun q hq hl => ⟨HIS.out q hq hl, rfl⟩, HB2.out.grown hg9 HB2.out.size (fun k hk => by injection hk with hk; omega)⟩
end Go.Proofs.YtkdfdbcpbgganaaGreatDoor
end

/- What the law on policies' texts leans on. -/
section
namespace Go.Proofs.YtkdfdbcpbgganaaGreatDoor
open Go.RowKit Go.BigFrame

theorem rd_putFar {w : World} {g i sz : Nat} {A : Option Addr} {rows : List (List Value)} (h : Rd w w.heap.size A sz rows) (v : Value) (hne : ∀ ad, A = some ad → ad.block ≠ g) : Rd (w.setCell ⟨g, i, none⟩ v) (w.setCell ⟨g, i, none⟩ v).heap.size A sz rows := by
  rcases h with h1 | ⟨ad, e, hb, hc⟩
  · exact .inl h1
  · refine .inr ⟨ad, e, by simpa using hb, fun k r hr => ⟨(hc k r hr).1, fun j x hx => ?_⟩⟩
    have h2 := (hc k r hr).2 j x hx
    rw [World.cell?_setCell_other _ _ _ _ (fun e' => by
      have h3 := congrArg Addr.block e'
      rw [block_of_add] at h3
      exact hne ad e h3.symm)]
    exact h2
theorem BasT.putFar {w : World} {A : Option Addr} {n cap : Nat} {b : Bas} (h : BasT w A n cap b) {g : Nat} (i : Nat) (v : Value) (hne : ∀ ad, A = some ad → ad.block ≠ g) : BasT (w.setCell ⟨g, i, none⟩ v) A n cap b :=
  ⟨⟨h.lives.len, h.lives.small, rd_putFar h.lives.rd v hne, h.lives.fits⟩, h.cap, h.first, h.rate⟩
end Go.Proofs.YtkdfdbcpbgganaaGreatDoor
end

/- How a law that draws opens its code, and from its walk to its row. No condition. -/
section
namespace Go.Proofs.YtkdfdbcpbgganaaGreatDoor
open Go.ChangeShapes Go.WideShapes Go.ChangeAt Go.RowKit Go.Deep

section
variable {H : Type} {enc : TypeId × Value → H} {P : Program} {w : World} {base : Nat} {spare : Nat → Bool} {held : Bool}
theorem open_code {t e : TypeId} {fuel n cap : Nat} {A : Option Addr} {x : DataW H × List MemPlace} (ht : P.underlying t = some (.slice e)) (he : P.underlying e = some (.int .u8)) (hC : P.cellsOf e = 1)
    (h : DataW.trod enc P w base spare held fuel t [.slice A n cap] = some x) :
    ∃ bs : List Int, bs.length = n ∧ (∀ z ∈ bs, 0 ≤ z ∧ z ≤ 255) ∧ Rd w w.heap.size A 1 (byteRows bs) ∧ n ≤ 9223372036854775807 := by
  rcases open_slice ht h with ⟨h0, _⟩ | ⟨a, len, cap', m', n', D, Pl, hcs, hb, hl, hmx, hmm, _, hel⟩
  · simp only [List.cons.injEq, Value.slice.injEq, and_true] at h0
    obtain ⟨rfl, rfl, _⟩ := h0
    exact ⟨[], rfl, by simp, .inl rfl, by omega⟩
  · simp only [List.cons.injEq, Value.slice.injEq, and_true] at hcs
    obtain ⟨rfl, rfl, rfl⟩ := hcs
    have hle : n ≤ m' := by rw [hmm]; split <;> omega
    have each : ∀ i : Nat, i < n → ∃ z : Int, (0 ≤ z ∧ z ≤ 255) ∧ w.cell? (a.add i) = some (.int .u8 z) := by
      intro i hin
      obtain ⟨cs', hc, htr⟩ := hel i (by omega)
      obtain ⟨z, rfl, _, wn⟩ := DataW.trod_int he htr
      obtain ⟨_, hcl, hat⟩ := World.cells?_some hc
      have := hat 0 (by rw [hC]; omega)
      rw [hC, add_of_add] at this
      refine ⟨z, ?_, by simpa using this⟩
      simpa [Lit.wf, IntKind.min, IntKind.max, IntKind.signed, IntKind.bits] using wn
    obtain ⟨bs, hbl, hbs⟩ := list_of n each
    have hmx' : n ≤ 9223372036854775807 := by unfold maxLen at *; omega
    refine ⟨bs, hbl, fun z hz => ?_, ?_, hmx'⟩
    · obtain ⟨i, hi', rfl⟩ := List.getElem_of_mem hz
      exact (hbs i _ (List.getElem?_eq_getElem hi')).1
    · rcases Nat.eq_zero_or_pos n with h0 | h0
      · have : bs = [] := List.eq_nil_of_length_eq_zero (by omega)
        subst this; exact .inl rfl
      · have hblk : a.block < w.heap.size := by
          obtain ⟨z, hz⟩ := get_of_lt (xs := bs) (k := 0) (by omega)
          have := block_lt_of_cell (hbs 0 z hz).2
          rwa [block_of_add] at this
        refine .inr ⟨a, rfl, hblk, fun k r hk => ?_⟩
        simp only [byteRows, List.getElem?_map, Option.map_eq_some_iff] at hk
        obtain ⟨z, hk, rfl⟩ := hk
        refine ⟨rfl, fun j v hv => ?_⟩
        have hj : j = 0 := by have := (List.getElem?_eq_some_iff.1 hv).1; simp at this; exact this
        subst hj
        simp only [List.getElem?_cons_zero, Option.some.injEq] at hv
        subst hv
        simpa using (hbs k z hk).2
end
theorem laws_big_any (A : Option Addr) (n cap : Nat) (w : World) (_hn : n ≤ 9223372036854775807) : Calls Tryz.prog 5 #[.slice A n cap] w fun e w' => e = .returned (.bool (decide (4096 < n))) ∧ w = w' := by
  by_cases h : 4096 < n
  · go_enter Tryz.func5, Tryz.ntmps5
    go_wp2
    go_ret
    exact ⟨by simp; omega, rfl⟩
  · go_enter Tryz.func5, Tryz.ntmps5
    go_wp2
    go_ret
    exact ⟨by simp; omega, rfl⟩
end Go.Proofs.YtkdfdbcpbgganaaGreatDoor
end

/- Slices that are read in later worlds, many at once. -/
section
namespace Go.Proofs.YtkdfdbcpbgganaaGreatDoor
open Go.RowKit Go.BigFrame
def Held (w : World) (L : List (Option Addr × Nat × List (List Value))) : Prop := ∀ x ∈ L, Rd w w.heap.size x.1 x.2.1 x.2.2
theorem Held.nil (w : World) : Held w [] := by intro x hx; cases hx
section
variable {w w' : World} {L : List (Option Addr × Nat × List (List Value))} {A : Option Addr} {sz : Nat} {rows : List (List Value)}
theorem Held.past (h : Held w L) (hb : Below w.heap.size w w') : Held w' L := fun x hx => (h x hx).past hb
theorem Held.snoc (h : Held w L) (hr : Rd w w.heap.size A sz rows) : Held w (L ++ [(A, sz, rows)]) := by
  intro x hx
  rcases List.mem_append.1 hx with hx | hx
  · exact h x hx
  · simp only [List.mem_singleton] at hx; rw [hx]; exact hr
theorem Held.cons (h : Held w L) (hr : Rd w w.heap.size A sz rows) : Held w ((A, sz, rows) :: L) := by
  intro x hx
  rcases List.mem_cons.1 hx with hx | hx
  · rw [hx]; exact hr
  · exact h x hx
theorem Held.get (h : Held w L) (k : Nat) (e : L[k]? = some (A, sz, rows)) : Rd w w.heap.size A sz rows := h _ (List.mem_of_getElem? e)
end
theorem Blk.rd {w : World} {g : Nat} {t : TypeId} {r : List Value} (h : Blk w g t r.toArray) : Rd w w.heap.size (some ⟨g, 0, none⟩) r.length [r] := by
  refine .inr ⟨_, rfl, h.lt, fun k r' hk => ?_⟩
  have h0 : k = 0 := by have := (List.getElem?_eq_some_iff.1 hk).1; simp at this; exact this
  subst h0
  simp only [List.getElem?_cons_zero, Option.some.injEq] at hk
  subst hk
  exact ⟨rfl, fun j v hv => by rw [add_none, h.cell]; simpa using hv⟩
/-- the cells of the one row of a box -/
theorem Rd.box {w : World} {B : Nat} {g sz : Nat} {r : List Value} (h : Rd w B (some ⟨g, 0, none⟩) sz [r]) : ∀ (j : Nat) (v : Value), r[j]? = some v → w.cell? ((⟨g, 0, none⟩ : Addr).add j) = some v := by
  intro j v hv
  rcases h with h | ⟨ad, e, _, hc⟩
  · cases h
  · injection e with e; subst e
    have := (hc 0 r rfl).2 j v hv
    simpa using this
theorem res_cap {w : World} {B t sz n cap : Nat} {A : Option Addr} {rows : List (List Value)} (h : Res B w t sz A n cap rows) : n ≤ cap := by
  rcases h.own.2 with ⟨h1, h2⟩ | ⟨g, c, cur, e, _, _, hnc, _⟩
  · simp only [Value.slice.injEq] at h1; omega
  · simp only [Value.slice.injEq] at e; omega
theorem Rd.boxT {w : World} {B g sz : Nat} {a b c : Value} (h : Rd w B (some ⟨g, 0, none⟩) sz [[a, b, c]]) : ∀ (j : Nat) (v : Value), [a, b][j]? = some v → w.cell? ((⟨g, 0, none⟩ : Addr).add j) = some v := fun j v hv => Rd.box h j v (by
  match j, hv with
  | 0, hv => simpa using hv
  | 1, hv => simpa using hv)
theorem below_all {w0 w1 w2 : World} (h : Below w0.heap.size w0 w1) (hb : Below w1.heap.size w1 w2) : Below w0.heap.size w0 w2 := h.trans (hb.mono h.size)
end Go.Proofs.YtkdfdbcpbgganaaGreatDoor
end

/- What a card's laid list gives of all that reading and writing texts lean on. No condition. -/
section
namespace Go.Proofs.YtkdfdbcpbgganaaGreatDoor
open Go.RowKit Go.Deep Go.BigFrame Go.ChangeShapes Go.WideShapes Go.ChangeAt

set_option maxRecDepth 100000 in
theorem law_liftedDS {k : FuncId} {fn : Func} {s : ChangeSpec} {conds : List PathCond} {laid : List (String × DataW Unit)} (os : Os) (started : os.Started) (H : Type) (enc : TypeId × Value → H) (F : Stop.Interp) (tb : TypeId)
    (noInit : Tryz.prog.inits.idxOf? k = none) (hfn : Tryz.prog.funcs[k]? = some fn)
    (witness : ∃ (w : World) (tape : Tape) (i : Input), w.os = os ∧ (w.forCall tape i).Shaped Tryz.prog ∧ i.vars = [] ∧ Input.okWide Tryz.prog (w.forCall tape i) .any w.heap.size k i ∧
      (OpenSpec.ofChange s).preRow enc Tryz.prog fn conds false laid (w.forCall tape i).memory i.args ∧ (Assume.holds {} Tryz.prog (lone (Frame.enter Tryz.prog k i.args .normal) [] (w.forCall tape i))))
    (hrow : varsRowed Tryz.prog s.vars = true) (hres : fn.resultTypes = #[tb]) (htb : Tryz.prog.underlying tb = some .bool) (hp : ∀ t ∈ fn.params.toList, Tryz.prog.readableRec t = true ∧ t < Tryz.prog.types.size)
    (hs : ∀ ds gs : List (DataW H), ds.length = fn.params.size → gs.length = s.vars.length → s.fn H (ds ++ gs) = { results := [.lit (.bool true)], args := ds, vars := gs })
    (walk : ∀ (W : World) (base : Nat) (args : Array Value) (ds : List (DataW H)) (p : List MemPlace), (∀ (j : Nat) t v, fn.params[j]? = some t → args[j]? = some v → Value.okWide Tryz.prog W .any base t v) →
      DataW.TrodAll enc Tryz.prog W 0 (fun _ => true) true fn.params.toList args.toList ds p → laidMetH Tryz.prog laid W → W.ShapedOpen Tryz.prog → Calls Tryz.prog k args W fun e W' => e = .returned (.bool true) ∧ Below W.heap.size W W') :
    ReturnsInHanded {} Tryz.checked os k .any ((OpenSpec.ofChange s).preRow enc Tryz.prog fn conds false laid) (((OpenSpec.ofChange s).at F).post enc Tryz.prog fn false true false false) := by
  refine returnsInHanded_of_row (C := Tryz.checked) (s := OpenSpec.ofChange s) own_knob started noInit hfn witness ?_
  intro W base args ds gs before hval hW _ _ _ hL hsh _
  obtain ⟨p, q, hA, hV, _, _, _⟩ := id hW
  refine (walk W base args ds p hval hA hL hsh).mono fun e W' ⟨he, hb⟩ => ?_
  subst he
  have hlen : ds.length = fn.params.size := by
    have : ∀ {ts : List TypeId} {vs : List Value} {ds : List (DataW H)} {ps : List MemPlace}, DataW.TrodAll enc Tryz.prog W 0 (fun _ => true) true ts vs ds ps → ds.length = ts.length := by
      intro ts
      induction ts with
      | nil => intro vs ds ps h; obtain ⟨_, rfl, _⟩ := trodAll_nil h; rfl
      | cons t ts ih => intro vs ds ps h; obtain ⟨_, _, _, _, _, _, _, rfl, _, _, h2⟩ := trodAll_cons h; simp [ih h2]
    simpa using this hA
  have hgl : gs.length = s.vars.length := by
    have : ∀ {ns : List String} {gs : List (DataW H)} {ps : List MemPlace}, DataW.TrodVars enc Tryz.prog W (fun _ => true) ns gs ps → gs.length = ns.length := by
      intro ns
      induction ns with
      | nil => intro gs ps h; cases gs with
        | nil => rfl
        | cons => exact h.elim
      | cons n ns ih => intro gs ps h; cases gs with
        | nil => exact h.elim
        | cons d ds => obtain ⟨_, _, _, _, _, _, _, _, _, _, h2, _⟩ := h; simp [ih h2]
    exact this hV
  exact ⟨_, rfl, post_true_vars hrow hW hres htb (hs ds gs hlen hgl) laid_out hp hb⟩
theorem tab_of_vars {W : World} {rest : List (String × DataW Unit)} {ps : List MemPlace} (h : DataW.LaidVars Tryz.prog W (("internal/strconv.uint64pow10", Rows.laid_internal_strconv_uint64pow10) :: rest) ps) : Tab W := by
  obtain ⟨g', t', cs, fuel, p, q, hg', ht', hvar, hd, _, _⟩ := h
  have hg : Tryz.prog.globalNamed "internal/strconv.uint64pow10" = some 4 := by kernel_rfl
  have hty : (Tryz.prog.globals[4]?).map (·.type) = some 177 := by kernel_rfl
  obtain rfl := Option.some.inj (hg.symm.trans hg')
  obtain rfl := Option.some.inj (hty.symm.trans ht')
  have he : (Rows.laid_internal_strconv_uint64pow10 : DataW Unit) = Lib.tabData .u64 Lib.pow10Tab := by rfl
  rw [he] at hd
  unfold Tab Lib.TabIs
  rw [hvar, ← Lib.cells_of_tab Tryz.underlying177 Tryz.underlying147 (by kernel_rfl) (by kernel_rfl) hd]
theorem vars_tail {W : World} {x : String × DataW Unit} {rest : List (String × DataW Unit)} {ps : List MemPlace} (h : DataW.LaidVars Tryz.prog W (x :: rest) ps) : ∃ q, DataW.LaidVars Tryz.prog W rest q := by
  obtain ⟨_, _, _, _, _, q, _, _, _, _, h2, _⟩ := h
  exact ⟨q, h2⟩
/-- the value that a datum of a table lays -/
def valOf : DataW Unit → Value
  | .lit (.int k z) => .int k z
  | .lit (.string b) => .string ⟨b.toArray⟩
  | _ => .nilIface
def valsOf : DataW Unit → List Value
  | .agg ds => ds.map valOf
  | _ => []

theorem err_row (u : TypeId) (h : Tryz.prog.typeName? 3 u = some "*errors.errorString") : u = 190 :=
  typeName_ptr_named (nm := "errors.errorString") (by rw [show "*" ++ "errors.errorString" = "*errors.errorString" by decide]; kernel_rfl) (by kernel_rfl) (by decide) u (by rw [show "*" ++ "errors.errorString" = "*errors.errorString" by decide]; exact h)
theorem syn_of {W : World} {text : List UInt8} {r : List (String × DataW Unit)} (h : laidMet Tryz.prog (("strconv.ErrSyntax", .iface "*errors.errorString" (.ptr (.agg [.lit (.string text)]))) :: r) W) :
    ∃ ev, W.cell? ⟨0, 0, none⟩ = some ev ∧ (ev = .nilIface ∨ ∃ te pe, ev = .iface te pe) := by
  have hg : Tryz.prog.globalNamed "strconv.ErrSyntax" = some 0 := by kernel_rfl
  have ht : (Tryz.prog.globals[0]?).map (·.type) = some 87 := by kernel_rfl
  obtain ⟨a0, _, hv0, _⟩ := laid_sentinel h hg ht Tryz.underlying87 err_row Tryz.underlying190 Tryz.underlying192 rfl rfl Tryz.underlying9 (by kernel_rfl) (by kernel_rfl)
  exact ⟨_, by have h0 := World.var?_cell hg hv0 0; simpa using h0, .inr ⟨_, _, rfl⟩⟩
theorem rng_of {W : World} {text : List UInt8} {r : List (String × DataW Unit)} (h : laidMet Tryz.prog (("strconv.ErrRange", .iface "*errors.errorString" (.ptr (.agg [.lit (.string text)]))) :: r) W) :
    ∃ ev, W.cell? ⟨1, 0, none⟩ = some ev ∧ (ev = .nilIface ∨ ∃ te pe, ev = .iface te pe) := by
  have hg : Tryz.prog.globalNamed "strconv.ErrRange" = some 1 := by kernel_rfl
  have ht : (Tryz.prog.globals[1]?).map (·.type) = some 87 := by kernel_rfl
  obtain ⟨a0, _, hv0, _⟩ := laid_sentinel h hg ht Tryz.underlying87 err_row Tryz.underlying190 Tryz.underlying192 rfl rfl Tryz.underlying9 (by kernel_rfl) (by kernel_rfl)
  exact ⟨_, by have h0 := World.var?_cell hg hv0 0; simpa using h0, .inr ⟨_, _, rfl⟩⟩
theorem mx_of {W : World} (h : W.ShapedOpen Tryz.prog) : ∃ m, W.cell? ⟨5, 0, none⟩ = some (.int .i64 m) :=
  cell_of_shapedOpen_int (zero := #[.int .i64 0]) (t := 3) h (of_decide_eq_true (by kernel_rfl)) (by kernel_rfl) rfl (by kernel_rfl) (by kernel_rfl) Tryz.underlying3
end Go.Proofs.YtkdfdbcpbgganaaGreatDoor
end
