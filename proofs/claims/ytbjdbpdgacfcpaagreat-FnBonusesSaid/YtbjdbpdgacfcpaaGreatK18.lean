/- Parts of a proof, one after another: Likes, ShareP, SortP, Held, Sort1. No condition. -/
import Derived.Test.YtbjdbpdgacfcpaaGreatK0
import Derived.Test.YtbjdbpdgacfcpaaGreatK1
import Derived.Test.YtbjdbpdgacfcpaaGreatK3
import Derived.Test.YtbjdbpdgacfcpaaGreatK10
import Derived.Test.YtbjdbpdgacfcpaaGreatK17
/- The laws' own helpers: equal lists are like each other; the sum of a list. -/
section
namespace Go.Proofs.YtbjdbpdgacfcpaaGreat
open Go.RowKit Go.BigFrame

theorem likeInts_any (A : Option Addr) (n cap : Nat) (A2 : Option Addr) (cap2 : Nat) (xs : List Int) (w : World) (hl : xs.length = n) (hn : n ≤ 1048576) (hX : Rd w w.heap.size A 1 (intRows xs)) (hX2 : Rd w w.heap.size A2 1 (intRows xs)) :
    Calls Tryz.prog 46 #[.slice A n cap, .slice A2 n cap2] w fun e w' => e = .returned (.bool true) ∧ Below w.heap.size w w' := by
  have HX := Lib.hid hX; clear hX
  have HX2 := Lib.hid hX2; clear hX2
  have HL := Lib.hid hl; clear hl
  go_enter Tryz.func46, Tryz.ntmps46
  go_wp2
  go_loopw [5] (fun i wr => ∃ k : Nat, k ≤ n ∧ i = .int .i64 k ∧ Below w.heap.size w wr) (fun i _ => n - (intOf i).toNat)
  case atStart => exact ⟨0, by omega, rfl, Below.refl _ _⟩
  case round =>
    obtain ⟨k, hk, rfl, hb⟩ := hrel
    by_cases hlt : k < n
    · obtain ⟨x, hx⟩ := get_of_lt (xs := xs) (k := k) (by rw [HL.out]; exact hlt)
      obtain ⟨ad, rfl, had, hc⟩ := (HX.out.past hb).int_at hx
      obtain ⟨ad2, rfl, had2, hc2⟩ := (HX2.out.past hb).int_at hx
      clear hx
      have d0 := fun y : Past wr => Past.cell hc y
      have d1 := fun y : Past wr => Past.cell hc2 y
      have hki : (k : Int) < (n : Int) := by omega
      clear hc hc2
      go_wp2
      refine wp_region_past (by kernel_rfl) (by kernel_rfl) ?_
      repeat (go_big_quiet_step (fail))
      refine wpQuiet_nil ?_
      rintro _ ⟨y, rfl⟩
      go_wp2
      go_roundw
      case rel => exact ⟨k + 1, by omega, by go_num, hb.trans (y.2.mono hb.size)⟩
      case measure => simp [intOf]; omega
    · have hki : ¬ (k : Int) < (n : Int) := by omega
      go_wp2
      go_ret
      exact ⟨rfl, hb⟩

def SumOk (xs : List Int) : Prop := ∀ k : Nat, -4000000000000000000 ≤ (xs.take k).sum ∧ (xs.take k).sum ≤ 4000000000000000000
theorem takeSum_snoc {xs : List Int} {k : Nat} {x : Int} (hx : xs[k]? = some x) : (xs.take (k + 1)).sum = (xs.take k).sum + x := by
  rw [take_succ_snoc hx]; simp
theorem sumOk_of {lo hi : Int} (h0 : lo ≤ 0) (h1 : 0 ≤ hi) {n : Nat} : ∀ (xs : List Int), xs.length ≤ n → (∀ x ∈ xs, lo ≤ x ∧ x ≤ hi) → lo * (n : Int) ≤ xs.sum ∧ xs.sum ≤ hi * (n : Int)
  | [], _, _ => by
    simp only [List.sum_nil]
    exact ⟨by have := Int.mul_nonneg (show 0 ≤ -lo by omega) (show (0 : Int) ≤ n by omega); rw [Int.neg_mul] at this; omega, Int.mul_nonneg h1 (by omega)⟩
  | x :: r, hl, h => by
    cases n with
    | zero => simp at hl
    | succ n =>
      obtain ⟨h2, h3⟩ := sumOk_of h0 h1 (n := n) r (by simpa using hl) fun y hy => h y (by simp [hy])
      have h4 := h x (by simp)
      simp only [List.sum_cons]
      have e1 : lo * ((n + 1 : Nat) : Int) = lo * (n : Int) + lo := by rw [Int.natCast_add, Int.mul_add]; simp
      have e2 : hi * ((n + 1 : Nat) : Int) = hi * (n : Int) + hi := by rw [Int.natCast_add, Int.mul_add]; simp
      omega
theorem SumOk.of {lo hi : Int} {xs : List Int} {n : Nat} (h0 : lo ≤ 0) (h1 : 0 ≤ hi) (hl : xs.length ≤ n) (h : ∀ x ∈ xs, lo ≤ x ∧ x ≤ hi) (hb : -4000000000000000000 ≤ lo * (n : Int) ∧ hi * (n : Int) ≤ 4000000000000000000) : SumOk xs := fun k => by
  have := sumOk_of h0 h1 (n := n) (xs.take k) (by simp; omega) fun x hx => h x (List.mem_of_mem_take hx)
  omega

theorem laws_sum_any (A : Option Addr) (n cap : Nat) (xs : List Int) (w : World) (hl : xs.length = n) (hn : n ≤ 1048576) (hX : Rd w w.heap.size A 1 (intRows xs)) (hs : SumOk xs) :
    Calls Tryz.prog 47 #[.slice A n cap] w fun e w' => e = .returned (.int .i64 xs.sum) ∧ w = w' := by
  have HX := Lib.hid hX; clear hX
  have HL := Lib.hid hl; clear hl
  have HS := Lib.hid hs; clear hs
  go_enter Tryz.func47, Tryz.ntmps47
  go_wp2
  go_loop [3, 4] (fun s i => ∃ k : Nat, k ≤ n ∧ i = .int .i64 k ∧ s = .int .i64 (xs.take k).sum) (fun _ i => n - (intOf i).toNat)
  case atStart => exact ⟨0, by omega, rfl, rfl⟩
  case round =>
    obtain ⟨k, hk, rfl, rfl⟩ := hrel
    by_cases hlt : k < n
    · obtain ⟨x, hx⟩ := get_of_lt (xs := xs) (k := k) (by rw [HL.out]; exact hlt)
      obtain ⟨ad, rfl, had, hc⟩ := HX.out.int_at hx
      have HE := Lib.hid (takeSum_snoc hx)
      obtain ⟨s0, s1⟩ := HS.out (k + 1)
      rw [HE.out] at s0 s1
      obtain ⟨t0, t1⟩ := HS.out k
      generalize (xs.take k).sum = S at HE s0 s1 t0 t1 ⊢
      have Hx := Lib.hid hx; clear hx
      have hki : (k : Int) < (n : Int) := by omega
      go_wp2
      go_round
      case rel => exact ⟨k + 1, by omega, by go_num, by rw [HE.out]⟩
      case measure => simp [intOf]; omega
    · have hki : ¬ (k : Int) < (n : Int) := by omega
      have hkn : k = n := by omega
      subst hkn
      go_wp2
      go_ret
      exact ⟨by rw [List.take_of_length_le (by rw [HL.out]; exact Nat.le_refl _)]; rfl, rfl⟩
end Go.Proofs.YtbjdbpdgacfcpaaGreat
end

/- Shares by weights: plain laws. No program. -/
section
namespace Go.Proofs.YtbjdbpdgacfcpaaGreat

/-- i comes before k: the greater key, or the same one and the smaller index -/
def Bef (r : List Int) (i k : Nat) : Prop := r.getD k 0 < r.getD i 0 ∨ (r.getD i 0 = r.getD k 0 ∧ i < k)
/-- the index of the first greatest one of the first n -/
def topAt (r : List Int) : Nat → Nat
  | 0 => 0
  | n + 1 => if r.getD (topAt r n) 0 < r.getD n 0 then n else topAt r n
theorem topAt_lt (r : List Int) : ∀ n, 0 < n → topAt r n < n
  | n + 1, _ => by
    unfold topAt
    split
    · omega
    · rcases Nat.eq_zero_or_pos n with h | h
      · subst h; simp [topAt]
      · have := topAt_lt r n h; omega
theorem topAt_zero (r : List Int) : topAt r 1 = 0 := by have := topAt_lt r 1 (by omega); omega
theorem topAt_max (r : List Int) : ∀ n i, i < n → r.getD i 0 ≤ r.getD (topAt r n) 0 ∧ (i < topAt r n → r.getD i 0 < r.getD (topAt r n) 0)
  | n + 1, i, hi => by
    unfold topAt
    split
    case isTrue h =>
      rcases Nat.lt_or_ge i n with h1 | h1
      · have := topAt_max r n i h1; omega
      · have : i = n := by omega
        subst this; omega
    case isFalse h =>
      rcases Nat.lt_or_ge i n with h1 | h1
      · exact topAt_max r n i h1
      · have : i = n := by omega
        subst this
        refine ⟨by omega, fun hb => ?_⟩
        rcases Nat.eq_zero_or_pos i with h0 | h0
        · subst h0; simp [topAt] at hb
        · have := topAt_lt r i h0; omega
/-- the first greatest is what no other one is ahead of -/
theorem topAt_eq {r : List Int} {n b : Nat} (hb : b < n) (h : ∀ i, i < n → i ≠ b → Bef r b i) : topAt r n = b := by
  by_cases he : topAt r n = b
  · exact he
  · have h1 := topAt_lt r n (by omega)
    have h2 := topAt_max r n b hb
    rcases h _ h1 he with h3 | ⟨h3, h4⟩
    · omega
    · have := h2.2 h4; omega
/-- one more to the places of a list of indices -/
def bump (o : List Int) : List Nat → List Int
  | [] => o
  | i :: is => bump (o.set i (o.getD i 0 + 1)) is
theorem bump_snoc : ∀ (is : List Nat) (o : List Int) (i : Nat), bump o (is ++ [i]) = (bump o is).set i ((bump o is).getD i 0 + 1)
  | [], _, _ => rfl
  | _ :: is, _, i => bump_snoc is _ i
theorem bump_length : ∀ (is : List Nat) (o : List Int), (bump o is).length = o.length
  | [], _ => rfl
  | _ :: is, _ => by simp [bump, bump_length is]
/-- these places become -1 -/
def spent (r : List Int) : List Nat → List Int
  | [] => r
  | i :: is => spent (r.set i (-1)) is
theorem spent_snoc : ∀ (is : List Nat) (r : List Int) (i : Nat), spent r (is ++ [i]) = (spent r is).set i (-1)
  | [], _, _ => rfl
  | _ :: is, _, i => spent_snoc is _ i
theorem spent_length : ∀ (is : List Nat) (r : List Int), (spent r is).length = r.length
  | [], _ => rfl
  | _ :: is, _ => by simp [spent, spent_length is]
theorem spent_get : ∀ (is : List Nat) (r : List Int) (k : Nat), k < r.length → (spent r is).getD k 0 = if k ∈ is then -1 else r.getD k 0
  | [], _, _, _ => by simp [spent]
  | i :: is, r, k, hk => by
    rw [spent, spent_get is _ k (by simpa using hk)]
    by_cases h1 : k ∈ is
    · simp [h1]
    · by_cases h2 : k = i
      · subst h2; simp [h1, hk]
      · rw [if_neg h1, if_neg (by simp [h1, h2])]
        simp [List.getD_eq_getElem?_getD, Ne.symm h2]
/-- an order of the n indices: each once, the greatest key first -/
structure OrderedN (r : List Int) (ord : List Nat) : Prop where
  len : ord.length = r.length
  mem : ∀ i, i ∈ ord ↔ i < r.length
  pair : ord.Pairwise (Bef r)
/-- among those that are left the first greatest one is the next of the order -/
theorem OrderedN.best {r : List Int} {ord : List Nat} (h : OrderedN r ord) (h0 : ∀ x ∈ r, 0 ≤ x) {j b : Nat} (hj : ord[j]? = some b) : topAt (spent r (ord.take j)) r.length = b := by
  have hnd : ord.Nodup := h.pair.imp fun {a b} hab e => by subst e; unfold Bef at hab; omega
  have hlt : ∀ i ∈ ord, i < r.length := fun i hi => (h.mem i).1 hi
  have hb := hlt b (List.mem_of_getElem? hj)
  have hbt : b ∉ ord.take j := fun hm => by
    obtain ⟨k, hk⟩ := List.mem_iff_getElem?.1 hm
    have hkj : k < j := by
      have := (List.getElem?_eq_some_iff.1 hk).1; simp at this; omega
    rw [List.getElem?_take_of_lt hkj] at hk
    have := (List.getElem?_inj (i := k) (j := j) (by obtain ⟨hx, _⟩ := List.getElem?_eq_some_iff.1 hk; exact hx) hnd).1 (hk.trans hj.symm)
    omega
  have hkey : ∀ i, i < r.length → 0 ≤ r.getD i 0 := fun i hi => by
    rw [List.getD_eq_getElem?_getD, List.getElem?_eq_getElem hi]; exact h0 _ (List.getElem_mem hi)
  refine topAt_eq hb fun i hi hne => ?_
  unfold Bef
  rw [spent_get _ _ _ hi, spent_get _ _ _ hb, if_neg hbt]
  by_cases hm : i ∈ ord.take j
  · rw [if_pos hm]; left; have := hkey b hb; omega
  · rw [if_neg hm]
    have hio : i ∈ ord := (h.mem i).2 hi
    obtain ⟨k, hk⟩ := List.mem_iff_getElem?.1 hio
    have hjk : j < k := by
      rcases Nat.lt_trichotomy k j with h1 | h1 | h1
      · exact absurd (List.mem_iff_getElem?.2 ⟨k, by rw [List.getElem?_take_of_lt h1]; exact hk⟩) hm
      · subst h1; rw [hj] at hk; exact absurd (Option.some.inj hk).symm hne
      · exact h1
    obtain ⟨hk1, hk2⟩ := List.getElem?_eq_some_iff.1 hk
    obtain ⟨hj1, hj2⟩ := List.getElem?_eq_some_iff.1 hj
    have := List.pairwise_iff_getElem.1 h.pair j k hj1 hk1 hjk
    rw [hk2, hj2] at this
    exact this
/-- rounds of the reference: the first greatest rest takes one more -/
def rounds (o r : List Int) : Nat → List Int × List Int
  | 0 => (o, r)
  | n + 1 => let p := rounds o r n; let b := topAt p.2 r.length; (p.1.set b (p.1.getD b 0 + 1), p.2.set b (-1))
theorem OrderedN.rounds {r : List Int} {ord : List Nat} (h : OrderedN r ord) (h0 : ∀ x ∈ r, 0 ≤ x) (o : List Int) : ∀ j, j ≤ r.length → rounds o r j = (bump o (ord.take j), spent r (ord.take j))
  | 0, _ => rfl
  | j + 1, hj => by
    obtain ⟨b, hb⟩ := get_of_lt (xs := ord) (k := j) (by rw [h.len]; omega)
    rw [Go.Proofs.YtbjdbpdgacfcpaaGreat.rounds, h.rounds h0 o j (by omega)]
    simp only [h.best h0 hb]
    rw [take_succ_snoc hb, bump_snoc, spent_snoc]
theorem rounds_length (o r : List Int) : ∀ j, (rounds o r j).1.length = o.length ∧ (rounds o r j).2.length = r.length
  | 0 => ⟨rfl, rfl⟩
  | j + 1 => by have := rounds_length o r j; simp [rounds, this]
/-- the wholes and the rests -/
def quots (a s : Int) (ws : List Int) : List Int := ws.map fun w => a * w / s
def rests (a s : Int) (ws : List Int) : List Int := ws.map fun w => a * w % s
theorem quots_rests {a s : Int} : ∀ ws : List Int, (quots a s ws).sum * s + (rests a s ws).sum = a * ws.sum
  | [] => by simp [quots, rests]
  | w :: ws => by
    have h := quots_rests (a := a) (s := s) ws
    simp only [quots, rests, List.map_cons, List.sum_cons] at h ⊢
    have h2 := Int.ediv_mul_add_emod (a * w) s
    rw [Int.mul_add, Int.add_mul]
    omega
theorem rests_sum {a s : Int} (hs : 0 < s) : ∀ ws : List Int, 0 ≤ (rests a s ws).sum ∧ (ws ≠ [] → (rests a s ws).sum < s * ws.length) ∧ (rests a s ws).sum ≤ s * ws.length
  | [] => by simp [rests]
  | w :: ws => by
    have h := rests_sum (a := a) hs ws
    simp only [rests, List.map_cons, List.sum_cons, List.length_cons] at h ⊢
    have h1 := Int.emod_nonneg (a * w) (show s ≠ 0 by omega)
    have h2 := Int.emod_lt_of_pos (a * w) hs
    have h3 : s * ((ws.length + 1 : Nat) : Int) = s * (ws.length : Int) + s := by push_cast; rw [Int.mul_add, Int.mul_one]
    rw [h3]
    refine ⟨by omega, fun _ => by omega, by omega⟩
theorem rests_nonneg {a s : Int} (hs : 0 < s) (ws : List Int) : ∀ x ∈ rests a s ws, 0 ≤ x ∧ x < s := by
  intro x hx
  obtain ⟨w, _, rfl⟩ := List.mem_map.1 hx
  exact ⟨Int.emod_nonneg _ (by omega), Int.emod_lt_of_pos _ hs⟩
/-- how many are left to give -/
def leftS (a : Int) (ws : List Int) : Int := a - (quots a ws.sum ws).sum
theorem leftS_bound {a : Int} {ws : List Int} (hs : 0 < ws.sum) : 0 ≤ leftS a ws ∧ leftS a ws ≤ ws.length := by
  have h1 := quots_rests (a := a) (s := ws.sum) ws
  obtain ⟨h2, _, h3⟩ := rests_sum (a := a) hs ws
  have h4 : leftS a ws * ws.sum = (rests a ws.sum ws).sum := by unfold leftS; rw [Int.sub_mul]; omega
  constructor
  · rcases (show leftS a ws < 0 ∨ 0 ≤ leftS a ws by omega) with h | h
    · have : leftS a ws * ws.sum < 0 := Int.mul_neg_of_neg_of_pos h hs
      omega
    · exact h
  · rcases (show (ws.length : Int) < leftS a ws ∨ leftS a ws ≤ ws.length by omega) with h | h
    · have : ((ws.length : Int) + 1) * ws.sum ≤ leftS a ws * ws.sum := Int.mul_le_mul_of_nonneg_right (by omega) (by omega)
      rw [Int.add_mul, Int.one_mul, Int.mul_comm (ws.length : Int)] at this
      omega
    · exact h
/-- the shares of an amount by weights -/
def sharesL (a : Int) (ws : List Int) : List Int := (rounds (quots a ws.sum ws) (rests a ws.sum ws) (leftS a ws).toNat).1
theorem sharesL_eq {a : Int} {ws : List Int} (hs : 0 < ws.sum) {ord : List Nat} (h : OrderedN (rests a ws.sum ws) ord) : sharesL a ws = bump (quots a ws.sum ws) (ord.take (leftS a ws).toNat) := by
  have hb := leftS_bound (a := a) hs
  unfold sharesL
  rw [h.rounds (fun x hx => (rests_nonneg hs ws x hx).1) _ _ (by simp [rests]; omega)]
theorem sharesL_length (a : Int) (ws : List Int) : (sharesL a ws).length = ws.length := by unfold sharesL; rw [(rounds_length _ _ _).1]; simp [quots]
theorem sum_set : ∀ {o : List Int} {i : Nat}, i < o.length → (o.set i (o.getD i 0 + 1)).sum = o.sum + 1
  | x :: xs, 0, _ => by simp; omega
  | x :: xs, i + 1, h => by
    have := sum_set (o := xs) (i := i) (by simpa using h)
    simp only [List.set_cons_succ, List.getD_cons_succ, List.sum_cons] at this ⊢
    omega
/-- all that is there is given -/
theorem sharesL_sum {a : Int} {ws : List Int} (hs : 0 < ws.sum) : (sharesL a ws).sum = a := by
  have hb := leftS_bound (a := a) hs
  have hw : 0 < ws.length := by cases ws <;> simp_all
  have h : ∀ j, (rounds (quots a ws.sum ws) (rests a ws.sum ws) j).1.sum = (quots a ws.sum ws).sum + j := by
    intro j
    induction j with
    | zero => simp [rounds]
    | succ j ih =>
      rw [rounds]
      have hl := rounds_length (quots a ws.sum ws) (rests a ws.sum ws) j
      have hr : (rests a ws.sum ws).length = ws.length := by simp [rests]
      have hq : (quots a ws.sum ws).length = ws.length := by simp [quots]
      have := topAt_lt (rounds (quots a ws.sum ws) (rests a ws.sum ws) j).2 (rests a ws.sum ws).length (by omega)
      rw [sum_set (by rw [hl.1]; omega), ih]
      push_cast; omega
  unfold sharesL
  rw [h]
  unfold leftS at hb ⊢
  omega
end Go.Proofs.YtbjdbpdgacfcpaaGreat
end

/- The stable order by rests, on positions: plain laws. No program. -/
section
namespace Go.Proofs.YtbjdbpdgacfcpaaGreat

/-- what the comparison says: x has the greater rest -/
def Gt (r : List Int) (x y : Nat) : Prop := r.getD y 0 < r.getD x 0
section
variable {r : List Int} {x y z : Nat}
theorem Gt.bef (h : Gt r x y) : Bef r x y := .inl h
theorem Bef.trans (h : Bef r x y) (h' : Bef r y z) : Bef r x z := by unfold Bef at *; omega
theorem Bef.irrefl (h : Bef r x x) : False := by unfold Bef at h; omega
theorem bef_left (h : x < y) (hn : ¬ Gt r y x) : Bef r x y := by unfold Bef; unfold Gt at hn; omega
theorem Gt.up (h : Bef r x y) (hg : Gt r y z) : Gt r x z := by unfold Bef at h; unfold Gt at *; omega
theorem Gt.down (h : Bef r x y) (hg : ¬ Gt r x z) : ¬ Gt r y z := by unfold Bef at h; unfold Gt at *; omega
theorem Gt.right (h : Bef r x y) (hg : Gt r z x) : Gt r z y := by unfold Bef at h; unfold Gt at *; omega
theorem Gt.rdown (h : Bef r x y) (hg : ¬ Gt r z y) : ¬ Gt r z x := by unfold Bef at h; unfold Gt at *; omega
end
/-- sorted between a and b -/
def Srt (r : List Int) (f : Nat → Nat) (a b : Nat) : Prop := ∀ i j, a ≤ i → i < j → j < b → Bef r (f i) (f j)
/-- what stands from a to m is smaller than what stands from m to b -/
def LR (f : Nat → Nat) (a m b : Nat) : Prop := ∀ i j, a ≤ i → i < m → m ≤ j → j < b → f i < f j
/-- only what stands between a and b has been moved -/
structure Mv (a b : Nat) (f g : Nat → Nat) : Prop where
  out : ∀ k, k < a ∨ b ≤ k → g k = f k
  from_ : ∀ k, a ≤ k → k < b → ∃ j, a ≤ j ∧ j < b ∧ g k = f j
  onto_ : ∀ j, a ≤ j → j < b → ∃ k, a ≤ k ∧ k < b ∧ g k = f j
theorem Mv.refl (a b : Nat) (f : Nat → Nat) : Mv a b f f := ⟨fun _ _ => rfl, fun k h h' => ⟨k, h, h', rfl⟩, fun k h h' => ⟨k, h, h', rfl⟩⟩
theorem Mv.trans {a b : Nat} {f g h : Nat → Nat} (m : Mv a b f g) (m' : Mv a b g h) : Mv a b f h := by
  refine ⟨fun k hk => (m'.out k hk).trans (m.out k hk), fun k h1 h2 => ?_, fun j h1 h2 => ?_⟩
  · obtain ⟨i, i1, i2, e⟩ := m'.from_ k h1 h2
    obtain ⟨j, j1, j2, e'⟩ := m.from_ i i1 i2
    exact ⟨j, j1, j2, e.trans e'⟩
  · obtain ⟨i, i1, i2, e⟩ := m.onto_ j h1 h2
    obtain ⟨k, k1, k2, e'⟩ := m'.onto_ i i1 i2
    exact ⟨k, k1, k2, e'.trans e⟩
theorem Mv.wide {a b a' b' : Nat} {f g : Nat → Nat} (m : Mv a b f g) (ha : a' ≤ a) (hb : b ≤ b') : Mv a' b' f g := by
  refine ⟨fun k hk => m.out k (by omega), fun k h1 h2 => ?_, fun j h1 h2 => ?_⟩
  · by_cases h : a ≤ k ∧ k < b
    · obtain ⟨j, j1, j2, e⟩ := m.from_ k h.1 h.2
      exact ⟨j, by omega, by omega, e⟩
    · exact ⟨k, h1, h2, m.out k (by omega)⟩
  · by_cases h : a ≤ j ∧ j < b
    · obtain ⟨k, k1, k2, e⟩ := m.onto_ j h.1 h.2
      exact ⟨k, by omega, by omega, e⟩
    · exact ⟨j, h1, h2, m.out j (by omega)⟩
/-- two are exchanged -/
def sw (i j : Nat) (f : Nat → Nat) (k : Nat) : Nat := if k = i then f j else if k = j then f i else f k
theorem Mv.sw {a b i j : Nat} (f : Nat → Nat) (i1 : a ≤ i) (i2 : i < b) (j1 : a ≤ j) (j2 : j < b) : Mv a b f (Go.Proofs.YtbjdbpdgacfcpaaGreat.sw i j f) := by
  refine ⟨fun k hk => ?_, fun k h1 h2 => ?_, fun k h1 h2 => ?_⟩
  · unfold Go.Proofs.YtbjdbpdgacfcpaaGreat.sw; rw [if_neg (by omega), if_neg (by omega)]
  · unfold Go.Proofs.YtbjdbpdgacfcpaaGreat.sw
    by_cases h : k = i
    · exact ⟨j, j1, j2, by rw [if_pos h]⟩
    · by_cases h' : k = j
      · exact ⟨i, i1, i2, by rw [if_neg h, if_pos h']⟩
      · exact ⟨k, h1, h2, by rw [if_neg h, if_neg h']⟩
  · unfold Go.Proofs.YtbjdbpdgacfcpaaGreat.sw
    by_cases h : k = i
    · by_cases hij : j = i
      · exact ⟨k, h1, h2, by rw [if_pos h, hij, h]⟩
      · exact ⟨j, j1, j2, by rw [if_neg hij, if_pos rfl, h]⟩
    · by_cases h' : k = j
      · exact ⟨i, i1, i2, by rw [if_pos rfl, h']⟩
      · exact ⟨k, h1, h2, by rw [if_neg h, if_neg h']⟩
theorem Srt.of_out {r : List Int} {f g : Nat → Nat} {a b : Nat} (h : Srt r f a b) (e : ∀ k, a ≤ k → k < b → g k = f k) : Srt r g a b :=
  fun i j h1 h2 h3 => by rw [e i h1 (by omega), e j (by omega) h3]; exact h i j h1 h2 h3
theorem Srt.sub {r : List Int} {f : Nat → Nat} {a b a' b' : Nat} (h : Srt r f a b) (ha : a ≤ a') (hb : b' ≤ b) : Srt r f a' b' :=
  fun i j h1 h2 h3 => h i j (by omega) h2 (by omega)
theorem Srt.tiny (r : List Int) (f : Nat → Nat) {a b : Nat} (h : b ≤ a + 1) : Srt r f a b := fun i j h1 h2 h3 => by omega

/-! insertion -/
/-- before round i of the insertion sort of [a, b) -/
structure Ins (r : List Int) (a b i : Nat) (f0 f : Nat → Nat) : Prop where
  lo : a ≤ i
  mv : Mv a b f0 f
  srt : Srt r f a i
  lr : LR f a i b
  inc : ∀ p q, i ≤ p → p < q → q < b → f p < f q
/-- in round i: the new one stands at j -/
structure Inn (r : List Int) (a b i j : Nat) (f0 f : Nat → Nat) : Prop where
  aj : a ≤ j
  ji : j ≤ i
  ib : i < b
  mv : Mv a b f0 f
  oth : ∀ p q, a ≤ p → p < q → q ≤ i → p ≠ j → q ≠ j → Bef r (f p) (f q)
  mine : ∀ q, j < q → q ≤ i → Bef r (f j) (f q)
  big : ∀ p, a ≤ p → p ≤ i → p ≠ j → f p < f j
  lr : LR f a (i + 1) b
  inc : ∀ p q, i + 1 ≤ p → p < q → q < b → f p < f q
theorem Ins.start {r : List Int} {a b : Nat} {f : Nat → Nat} (h : ∀ p q, a ≤ p → p < q → q < b → f p < f q) : Ins r a b (a + 1) f f :=
  ⟨by omega, Mv.refl _ _ _, Srt.tiny r f (Nat.le_refl _), fun i j h1 h2 h3 h4 => h i j h1 (by omega) h4, fun p q h1 h2 h3 => h p q (by omega) h2 h3⟩
theorem Ins.zero {r : List Int} {a b : Nat} {f : Nat → Nat} (h : ∀ p q, a ≤ p → p < q → q < b → f p < f q) : Ins r a b a f f :=
  ⟨by omega, Mv.refl _ _ _, Srt.tiny r f (by omega), fun i j h1 h2 h3 h4 => by omega, fun p q h1 h2 h3 => h p q (by omega) h2 h3⟩
theorem Ins.inn {r : List Int} {a b i : Nat} {f0 f : Nat → Nat} (h : Ins r a b i f0 f) (hi : i < b) : Inn r a b i i f0 f := by
  refine ⟨h.lo, Nat.le_refl _, hi, h.mv, fun p q h1 h2 h3 h4 h5 => h.srt p q h1 h2 (by omega), fun q h1 h2 => by omega, fun p h1 h2 h3 => h.lr p i h1 (by omega) (Nat.le_refl _) hi, fun p q h1 h2 h3 h4 => ?_, fun p q h1 h2 h3 => h.inc p q (by omega) h2 h3⟩
  by_cases hp : p = i
  · subst hp; exact h.inc p q (Nat.le_refl _) (by omega) h4
  · exact h.lr p q h1 (by omega) (by omega) h4
theorem Inn.stop {r : List Int} {a b i j : Nat} {f0 f : Nat → Nat} (h : Inn r a b i j f0 f) (hs : j = a ∨ ¬ Gt r (f j) (f (j - 1))) : Ins r a b (i + 1) f0 f := by
  have haj := h.aj; have hji := h.ji
  refine ⟨by omega, h.mv, fun p q h1 h2 h3 => ?_, h.lr, h.inc⟩
  by_cases hp : p = j
  · subst hp; exact h.mine q h2 (by omega)
  · by_cases hq : q = j
    · subst hq
      rcases hs with hs | hs
      · omega
      · have h5 : Bef r (f (q - 1)) (f q) := bef_left (h.big (q - 1) (by omega) (by omega) (by omega)) hs
        by_cases h6 : p = q - 1
        · rw [h6]; exact h5
        · exact (h.oth p (q - 1) h1 (by omega) (by omega) hp (by omega)).trans h5
    · exact h.oth p q h1 h2 (by omega) hp hq
theorem Inn.step {r : List Int} {a b i j : Nat} {f0 f : Nat → Nat} (h : Inn r a b i j f0 f) (hj : a < j) (hg : Gt r (f j) (f (j - 1))) : Inn r a b i (j - 1) f0 (sw j (j - 1) f) := by
  have haj := h.aj; have hji := h.ji; have hib := h.ib
  have e1 : sw j (j - 1) f j = f (j - 1) := by unfold sw; rw [if_pos rfl]
  have e2 : sw j (j - 1) f (j - 1) = f j := by unfold sw; rw [if_neg (by omega), if_pos rfl]
  have e3 : ∀ k, k ≠ j → k ≠ j - 1 → sw j (j - 1) f k = f k := fun k h1 h2 => by unfold sw; rw [if_neg h1, if_neg h2]
  refine ⟨by omega, by omega, hib, h.mv.trans (Mv.sw f (by omega) (by omega) (by omega) (by omega)), fun p q h1 h2 h3 h4 h5 => ?_, fun q h1 h2 => ?_, fun p h1 h2 h3 => ?_, fun p q h1 h2 h3 h4 => ?_, fun p q h1 h2 h3 => ?_⟩
  · by_cases hp : p = j
    · rw [hp, e1, e3 q (by omega) h5]
      exact h.oth (j - 1) q (by omega) (by omega) h3 (by omega) (by omega)
    · by_cases hq : q = j
      · rw [hq, e1, e3 p hp h4]
        exact h.oth p (j - 1) h1 (by omega) (by omega) hp (by omega)
      · rw [e3 p hp h4, e3 q hq h5]
        exact h.oth p q h1 h2 h3 hp hq
  · rw [e2]
    by_cases hq : q = j
    · rw [hq, e1]; exact hg.bef
    · rw [e3 q hq (by omega)]; exact h.mine q (by omega) h2
  · rw [e2]
    by_cases hp : p = j
    · rw [hp, e1]; exact h.big (j - 1) (by omega) (by omega) (by omega)
    · rw [e3 p hp h3]; exact h.big p h1 h2 hp
  · rw [e3 q (by omega) (by omega)]
    by_cases hp : p = j
    · rw [hp, e1]; exact h.lr (j - 1) q (by omega) (by omega) h3 h4
    · by_cases hp' : p = j - 1
      · rw [hp', e2]; exact h.lr j q (by omega) (by omega) h3 h4
      · rw [e3 p hp hp']; exact h.lr p q h1 h2 h3 h4
  · rw [e3 p (by omega) (by omega), e3 q (by omega) (by omega)]; exact h.inc p q h1 h2 h3

/-! one alone is merged into the others -/
/-- the one at a has come to k, those between have gone one down -/
def mvR (a k : Nat) (f : Nat → Nat) (p : Nat) : Nat := if p = k then f a else if a ≤ p ∧ p < k then f (p + 1) else f p
theorem mvR_zero (a : Nat) (f : Nat → Nat) : mvR a a f = f := by
  funext p; unfold mvR
  split
  · rename_i h; rw [h]
  · rw [if_neg (by omega)]
theorem mvR_succ {a k : Nat} (h : a ≤ k) (f : Nat → Nat) : sw k (k + 1) (mvR a k f) = mvR a (k + 1) f := by
  funext p; unfold sw mvR
  by_cases h1 : p = k
  · subst h1
    rw [if_pos rfl, if_neg (by omega), if_neg (by omega), if_neg (by omega), if_pos ⟨h, by omega⟩]
  · rw [if_neg h1]
    by_cases h2 : p = k + 1
    · subst h2; rw [if_pos rfl, if_pos rfl, if_pos rfl]
    · rw [if_neg h2, if_neg h2, if_neg h1]
      by_cases h3 : a ≤ p ∧ p < k
      · rw [if_pos h3, if_pos ⟨h3.1, by omega⟩]
      · rw [if_neg h3, if_neg (by omega)]
theorem mvR_mv {a b : Nat} (f : Nat → Nat) : ∀ k, a ≤ k → k < b → Mv a b f (mvR a k f)
  | 0, h, _ => by
    have : a = 0 := by omega
    subst this; rw [mvR_zero]; exact Mv.refl _ _ _
  | k + 1, h, hb => by
    by_cases hk : a = k + 1
    · rw [← hk, mvR_zero]; exact Mv.refl _ _ _
    · rw [← mvR_succ (by omega)]
      exact (mvR_mv f k (by omega) (by omega)).trans (Mv.sw _ (by omega) (by omega) (by omega) (by omega))
theorem merge_first {r : List Int} {a b i : Nat} {f : Nat → Nat} (hs : Srt r f (a + 1) b) (hl : LR f a (a + 1) b) (hi : a + 1 ≤ i) (hib : i ≤ b)
    (h1 : ∀ k, a + 1 ≤ k → k < i → Gt r (f k) (f a)) (h2 : ∀ k, i ≤ k → k < b → ¬ Gt r (f k) (f a)) : Srt r (mvR a (i - 1) f) a b := by
  intro p q hp hpq hq
  unfold mvR
  by_cases hq1 : q = i - 1
  · rw [if_pos hq1, if_neg (by omega), if_pos ⟨hp, by omega⟩]
    exact (h1 (p + 1) (by omega) (by omega)).bef
  · rw [if_neg hq1]
    by_cases hp1 : p = i - 1
    · rw [if_pos hp1, if_neg (by omega)]
      exact bef_left (hl a q (by omega) (by omega) (by omega) hq) (h2 q (by omega) hq)
    · rw [if_neg hp1]
      by_cases hp2 : p < i - 1
      · rw [if_pos ⟨hp, hp2⟩]
        by_cases hq2 : q < i - 1
        · rw [if_pos ⟨by omega, hq2⟩]; exact hs (p + 1) (q + 1) (by omega) (by omega) (by omega)
        · rw [if_neg (by omega)]; exact hs (p + 1) q (by omega) (by omega) hq
      · rw [if_neg (by omega), if_neg (by omega)]; exact hs p q (by omega) hpq hq
/-- the one at m has come to k, those between have gone one up -/
def mvL (m k : Nat) (f : Nat → Nat) (p : Nat) : Nat := if p = k then f m else if k < p ∧ p ≤ m then f (p - 1) else f p
theorem mvL_zero (m : Nat) (f : Nat → Nat) : mvL m m f = f := by
  funext p; unfold mvL
  split
  · rename_i h; rw [h]
  · rw [if_neg (by omega)]
theorem mvL_succ {m k : Nat} (h : k ≤ m) (h0 : 0 < k) (f : Nat → Nat) : sw k (k - 1) (mvL m k f) = mvL m (k - 1) f := by
  funext p; unfold sw mvL
  by_cases h1 : p = k
  · subst h1
    rw [if_pos rfl, if_neg (by omega), if_neg (by omega), if_neg (by omega), if_pos ⟨by omega, h⟩]
  · rw [if_neg h1]
    by_cases h2 : p = k - 1
    · rw [if_pos h2, if_pos h2, if_pos rfl]
    · rw [if_neg h2, if_neg h2, if_neg h1]
      by_cases h3 : k < p ∧ p ≤ m
      · rw [if_pos h3, if_pos ⟨by omega, h3.2⟩]
      · rw [if_neg h3, if_neg (by omega)]
theorem mvL_mv {a m b : Nat} (f : Nat → Nat) (hm : m < b) : ∀ d k, k + d = m → a ≤ k → Mv a b f (mvL m k f)
  | 0, k, e, _ => by
    have : k = m := by omega
    subst this; rw [mvL_zero]; exact Mv.refl _ _ _
  | d + 1, k, e, ha => by
    have h := mvL_succ (m := m) (k := k + 1) (by omega) (by omega) f
    rw [Nat.add_sub_cancel] at h
    rw [← h]
    exact (mvL_mv f hm d (k + 1) (by omega) (by omega)).trans (Mv.sw _ (by omega) (by omega) (by omega) (by omega))
theorem merge_last {r : List Int} {a m i : Nat} {f : Nat → Nat} (hs : Srt r f a m) (hl : LR f a m (m + 1)) (hi : a ≤ i) (him : i ≤ m)
    (h1 : ∀ k, a ≤ k → k < i → ¬ Gt r (f m) (f k)) (h2 : ∀ k, i ≤ k → k < m → Gt r (f m) (f k)) : Srt r (mvL m i f) a (m + 1) := by
  intro p q hp hpq hq
  unfold mvL
  by_cases hq1 : q = i
  · rw [if_pos hq1, if_neg (by omega), if_neg (by omega)]
    exact bef_left (hl p m hp (by omega) (Nat.le_refl _) (by omega)) (h1 p hp (by omega))
  · rw [if_neg hq1]
    by_cases hp1 : p = i
    · rw [if_pos hp1, if_pos ⟨by omega, by omega⟩]
      exact (h2 (q - 1) (by omega) (by omega)).bef
    · rw [if_neg hp1]
      by_cases hp2 : i < p
      · rw [if_pos ⟨hp2, by omega⟩, if_pos ⟨by omega, by omega⟩]; exact hs (p - 1) (q - 1) (by omega) (by omega) (by omega)
      · rw [if_neg (by omega)]
        by_cases hq2 : i < q
        · rw [if_pos ⟨hq2, by omega⟩]; exact hs p (q - 1) hp (by omega) (by omega)
        · rw [if_neg (by omega)]; exact hs p q hp hpq (by omega)

/-! rotation -/
/-- [a, m) and [m, b) have changed places -/
def rotF (a m b : Nat) (f : Nat → Nat) (k : Nat) : Nat := if k < a ∨ b ≤ k then f k else if k < a + (b - m) then f (k + (m - a)) else f (k - (b - m))
/-- n from x and n from y have changed places -/
def swr (x y n : Nat) (f : Nat → Nat) (k : Nat) : Nat := if x ≤ k ∧ k < x + n then f (k - x + y) else if y ≤ k ∧ k < y + n then f (k - y + x) else f k
theorem swr_zero (x y : Nat) (f : Nat → Nat) : swr x y 0 f = f := by
  funext k; unfold swr; rw [if_neg (by omega), if_neg (by omega)]
theorem swr_succ {x y n : Nat} (h : x + n < y) (f : Nat → Nat) : sw (x + n) (y + n) (swr x y n f) = swr x y (n + 1) f := by
  funext k; unfold sw swr
  by_cases h1 : k = x + n
  · rw [if_pos h1, if_neg (by omega), if_neg (by omega), if_pos ⟨by omega, by omega⟩]
    congr 1; omega
  · rw [if_neg h1]
    by_cases h2 : k = y + n
    · rw [if_pos h2, if_neg (by omega), if_neg (by omega), if_neg (by omega), if_pos ⟨by omega, by omega⟩]
      congr 1; omega
    · rw [if_neg h2]
      by_cases h3 : x ≤ k ∧ k < x + n
      · rw [if_pos h3, if_pos ⟨h3.1, by omega⟩]
      · rw [if_neg h3, if_neg (show ¬ (x ≤ k ∧ k < x + (n + 1)) by omega)]
        by_cases h4 : y ≤ k ∧ k < y + n
        · rw [if_pos h4, if_pos ⟨h4.1, by omega⟩]
        · rw [if_neg h4, if_neg (by omega)]
theorem rot_left {m i j : Nat} (hj : j < i) (hi : i ≤ m) (f : Nat → Nat) : rotF (m - (i - j)) m (m + j) (swr (m - i) m j f) = rotF (m - i) m (m + j) f := by
  funext k; unfold rotF swr
  by_cases h1 : k < m - i ∨ m + j ≤ k
  · rw [if_pos (show k < m - (i - j) ∨ m + j ≤ k by omega), if_pos h1, if_neg (by omega), if_neg (by omega)]
  · rw [if_neg h1]
    by_cases h2 : k < m - i + j
    · rw [if_pos (show k < m - (i - j) ∨ m + j ≤ k by omega), if_pos (show k < m - i + (m + j - m) by omega), if_pos ⟨by omega, h2⟩]
      congr 1; omega
    · rw [if_neg (show ¬ (k < m - (i - j) ∨ m + j ≤ k) by omega), if_neg (show ¬ k < m - i + (m + j - m) by omega)]
      by_cases h3 : k < m - (i - j) + (m + j - m)
      · rw [if_pos h3, if_neg (by omega), if_pos (show m ≤ k + (m - (m - (i - j))) ∧ k + (m - (m - (i - j))) < m + j by omega)]
        congr 1; omega
      · rw [if_neg h3, if_neg (by omega), if_neg (by omega)]
theorem rot_right {m i j : Nat} (hj : i < j) (hi : i ≤ m) (f : Nat → Nat) : rotF (m - i) m (m + (j - i)) (swr (m - i) (m + j - i) i f) = rotF (m - i) m (m + j) f := by
  funext k; unfold rotF swr
  by_cases h1 : k < m - i ∨ m + j ≤ k
  · rw [if_pos (show k < m - i ∨ m + (j - i) ≤ k by omega), if_pos h1, if_neg (by omega), if_neg (by omega)]
  · rw [if_neg h1]
    by_cases h2 : k < m + (j - i)
    · rw [if_neg (show ¬ (k < m - i ∨ m + (j - i) ≤ k) by omega)]
      by_cases h3 : k < m - i + (m + (j - i) - m)
      · rw [if_pos h3, if_pos (show k < m - i + (m + j - m) by omega)]
        by_cases h4 : k + (m - (m - i)) < m + j - i
        · rw [if_neg (by omega), if_neg (by omega)]
        · omega
      · rw [if_neg h3]
        by_cases h4 : k < m - i + (m + j - m)
        · rw [if_pos h4, if_pos (show m - i ≤ k - (m + (j - i) - m) ∧ k - (m + (j - i) - m) < m - i + i by omega)]
          congr 1; omega
        · omega
    · rw [if_pos (show k < m - i ∨ m + (j - i) ≤ k by omega), if_neg (show ¬ k < m - i + (m + j - m) by omega), if_neg (by omega), if_pos (show m + j - i ≤ k ∧ k < m + j - i + i by omega)]
      congr 1; omega
theorem rot_same {m i : Nat} (hi : i ≤ m) (f : Nat → Nat) : swr (m - i) m i f = rotF (m - i) m (m + i) f := by
  funext k; unfold rotF swr
  by_cases h1 : k < m - i ∨ m + i ≤ k
  · rw [if_pos h1, if_neg (by omega), if_neg (by omega)]
  · rw [if_neg h1]
    by_cases h2 : k < m - i + (m + i - m)
    · rw [if_pos h2, if_pos ⟨by omega, by omega⟩]; congr 1; omega
    · rw [if_neg h2, if_neg (by omega), if_pos ⟨by omega, by omega⟩]; congr 1; omega
theorem rot_none {a m b : Nat} (h : m = a ∨ b = m) (ha : a ≤ m) (hb : m ≤ b) (f : Nat → Nat) : rotF a m b f = f := by
  funext k; unfold rotF
  by_cases h1 : k < a ∨ b ≤ k
  · rw [if_pos h1]
  · rw [if_neg h1]
    rcases h with h | h
    · subst h; rw [if_pos (by omega)]; congr 1; omega
    · subst h; rw [if_neg (by omega)]; congr 1; omega
theorem rot_mv {a m b : Nat} (ha : a ≤ m) (hb : m ≤ b) (f : Nat → Nat) : Mv a b f (rotF a m b f) := by
  refine ⟨fun k hk => if_pos hk, fun k h1 h2 => ?_, fun j h1 h2 => ?_⟩
  · unfold rotF; rw [if_neg (by omega)]
    by_cases h3 : k < a + (b - m)
    · exact ⟨k + (m - a), by omega, by omega, if_pos h3⟩
    · exact ⟨k - (b - m), by omega, by omega, if_neg h3⟩
  · by_cases h3 : j < m
    · refine ⟨j + (b - m), by omega, by omega, ?_⟩
      unfold rotF; rw [if_neg (by omega), if_neg (by omega)]; congr 1; omega
    · refine ⟨j - (m - a), by omega, by omega, ?_⟩
      unfold rotF; rw [if_neg (by omega), if_pos (by omega)]; congr 1; omega

/-! symmetric merging -/
/-- the search has ended: where it is to be cut -/
structure CutAt (r : List Int) (a m b mid s : Nat) (f : Nat → Nat) : Prop where
  am : a ≤ m
  mb : m ≤ b
  ac : a ≤ s
  sm : s ≤ m
  smid : s ≤ mid
  eb : mid + m - s ≤ b
  em : mid ≤ mid + m - s
  me : m ≤ mid + m - s
  left : a < s → mid + m - s < b → ¬ Gt r (f (mid + m - s)) (f (s - 1))
  right : s < m → m < mid + m - s → Gt r (f (mid + m - s - 1)) (f s)
/-- behind the rotation: what the two halves are -/
theorem CutAt.halves {r : List Int} {a m b mid s : Nat} {f : Nat → Nat} (h : CutAt r a m b mid s f) (h1 : Srt r f a m) (h2 : Srt r f m b) (hl : LR f a m b) :
    let g := rotF s m (mid + m - s) f
    Srt r g a s ∧ Srt r g s mid ∧ LR g a s mid ∧ Srt r g mid (mid + m - s) ∧ Srt r g (mid + m - s) b ∧ LR g mid (mid + m - s) b ∧ (∀ p q, a ≤ p → p < mid → mid ≤ q → q < b → Bef r (g p) (g q)) := by
  have am := h.am; have mb := h.mb; have ac := h.ac; have sm := h.sm; have smid := h.smid; have eb := h.eb; have em := h.em; have me := h.me
  intro g
  obtain ⟨e, he⟩ : ∃ e, e = mid + m - s := ⟨_, rfl⟩
  have hg : g = rotF s m e f := by show rotF s m (mid + m - s) f = _; rw [he]
  have hL := h.left; have hR := h.right
  rw [← he] at eb em me hL hR ⊢
  have g1 : ∀ k, k < s → g k = f k := fun k hk => by rw [hg]; exact if_pos (.inl hk)
  have g2 : ∀ k, s ≤ k → k < mid → g k = f (k + (m - s)) := fun k hk hk' => by rw [hg]; unfold rotF; rw [if_neg (by omega), if_pos (by omega)]
  have g3 : ∀ k, mid ≤ k → k < e → g k = f (k - (e - m)) := fun k hk hk' => by rw [hg]; unfold rotF; rw [if_neg (by omega), if_neg (by omega)]
  have g4 : ∀ k, e ≤ k → g k = f k := fun k hk => by rw [hg]; exact if_pos (.inr hk)
  refine ⟨fun i j i1 i2 i3 => ?_, fun i j i1 i2 i3 => ?_, fun i j i1 i2 i3 i4 => ?_, fun i j i1 i2 i3 => ?_, fun i j i1 i2 i3 => ?_, fun i j i1 i2 i3 i4 => ?_, fun p q p1 p2 q1 q2 => ?_⟩
  · rw [g1 i (by omega), g1 j i3]; exact h1 i j i1 i2 (by omega)
  · rw [g2 i i1 (by omega), g2 j (by omega) i3]; exact h2 _ _ (by omega) (by omega) (by omega)
  · rw [g1 i i2, g2 j i3 i4]; exact hl _ _ i1 (by omega) (by omega) (by omega)
  · rw [g3 i i1 (by omega), g3 j (by omega) i3]; exact h1 _ _ (by omega) (by omega) (by omega)
  · rw [g4 i i1, g4 j (by omega)]; exact h2 i j (by omega) i2 i3
  · rw [g3 i i1 i2, g4 j i3]; exact hl _ _ (by omega) (by omega) (by omega) i4
  · by_cases hp : p < s
    · rw [g1 p hp]
      by_cases hq : q < e
      · rw [g3 q q1 hq]; exact h1 p _ p1 (by omega) (by omega)
      · rw [g4 q (by omega)]
        have hx : Bef r (f (s - 1)) (f e) := bef_left (hl _ _ (by omega) (by omega) (by omega) (by omega)) (hL (by omega) (by omega))
        have hy : Bef r (f p) (f e) := by
          by_cases hps : p = s - 1
          · rw [hps]; exact hx
          · exact (h1 p (s - 1) p1 (by omega) (by omega)).trans hx
        by_cases hqe : q = e
        · rw [hqe]; exact hy
        · exact hy.trans (h2 e q (by omega) (by omega) q2)
    · rw [g2 p (by omega) p2]
      by_cases hq : q < e
      · rw [g3 q q1 hq]
        have hx : Bef r (f (e - 1)) (f s) := (hR (by omega) (by omega)).bef
        have hy : Bef r (f (p + (m - s))) (f s) := by
          by_cases hpe : p + (m - s) = e - 1
          · rw [hpe]; exact hx
          · exact (h2 _ (e - 1) (by omega) (by omega) (by omega)).trans hx
        by_cases hqs : q - (e - m) = s
        · rw [hqs]; exact hy
        · exact hy.trans (h1 s _ (by omega) (by omega) (by omega))
      · rw [g4 q (by omega)]; exact h2 _ q (by omega) (by omega) q2
/-- both halves are sorted, and so is the whole -/
theorem halves_join {r : List Int} {a mid b : Nat} {g g1 g2 : Nat → Nat} (hc : ∀ p q, a ≤ p → p < mid → mid ≤ q → q < b → Bef r (g p) (g q)) (ha : a ≤ mid) (hb : mid ≤ b)
    (m1 : Mv a mid g g1) (s1 : Srt r g1 a mid) (m2 : Mv mid b g1 g2) (s2 : Srt r g2 mid b) : Srt r g2 a b ∧ Mv a b g g2 := by
  refine ⟨fun i j i1 i2 i3 => ?_, (m1.wide (Nat.le_refl _) hb).trans (m2.wide ha (Nat.le_refl _))⟩
  by_cases hi : i < mid
  · by_cases hj : j < mid
    · rw [m2.out i (.inl hi), m2.out j (.inl hj)]; exact s1 i j i1 i2 hj
    · obtain ⟨p, p1, p2, e⟩ := m1.from_ i i1 hi
      obtain ⟨q, q1, q2, e'⟩ := m2.from_ j (by omega) i3
      rw [m2.out i (.inl hi), e, e', m1.out q (.inr q1)]
      exact hc p q p1 p2 q1 q2
  · exact s2 i j (by omega) i2 i3
/-- the list of positions is an order of the indices -/
theorem ordered_of {r : List Int} {n : Nat} {g : Nat → Nat} (hn : r.length = n) (hm : Mv 0 n (fun k => k) g) (hs : Srt r g 0 n) : OrderedN r ((List.range n).map g) := by
  refine ⟨by simp [hn], fun i => ⟨fun hi => ?_, fun hi => ?_⟩, ?_⟩
  · obtain ⟨k, hk, rfl⟩ := List.mem_map.1 hi
    have hk' : k < n := by simpa using hk
    obtain ⟨j, _, j2, e⟩ := hm.from_ k (by omega) hk'
    have e2 : g k = j := e
    rw [e2, hn]; exact j2
  · obtain ⟨k, _, k2, e⟩ := hm.onto_ i (by omega) (by rw [← hn]; exact hi)
    exact List.mem_map.2 ⟨k, by simpa using k2, e⟩
  · rw [List.pairwise_map]
    refine List.Pairwise.imp_of_mem (fun {a b} ha hb hab => ?_) (List.pairwise_lt_range (n := n))
    exact hs a b (by omega) hab (by simpa using hb)
end Go.Proofs.YtbjdbpdgacfcpaaGreat
end

/- Slices that are read in later worlds, many at once. -/
section
namespace Go.Proofs.YtbjdbpdgacfcpaaGreat
open Go.RowKit Go.BigFrame
def Held (w : World) (L : List (Option Addr × Nat × List (List Value))) : Prop := ∀ x ∈ L, Rd w w.heap.size x.1 x.2.1 x.2.2
theorem Held.nil (w : World) : Held w [] := by intro x hx; cases hx
section
variable {w w' : World} {L : List (Option Addr × Nat × List (List Value))} {A : Option Addr} {sz : Nat} {rows : List (List Value)}
theorem Held.past (h : Held w L) (hb : Below w.heap.size w w') : Held w' L := fun x hx => (h x hx).past hb
theorem Held.snoc (h : Held w L) (hr : Rd w w.heap.size A sz rows) : Held w (L ++ [(A, sz, rows)]) := by
  intro x hx
  rcases List.mem_append.1 hx with hx | hx
  · exact h x hx
  · simp only [List.mem_singleton] at hx; rw [hx]; exact hr
theorem Held.cons (h : Held w L) (hr : Rd w w.heap.size A sz rows) : Held w ((A, sz, rows) :: L) := by
  intro x hx
  rcases List.mem_cons.1 hx with hx | hx
  · rw [hx]; exact hr
  · exact h x hx
theorem Held.get (h : Held w L) (k : Nat) (e : L[k]? = some (A, sz, rows)) : Rd w w.heap.size A sz rows := h _ (List.mem_of_getElem? e)
end
theorem Blk.rd {w : World} {g : Nat} {t : TypeId} {r : List Value} (h : Blk w g t r.toArray) : Rd w w.heap.size (some ⟨g, 0, none⟩) r.length [r] := by
  refine .inr ⟨_, rfl, h.lt, fun k r' hk => ?_⟩
  have h0 : k = 0 := by have := (List.getElem?_eq_some_iff.1 hk).1; simp at this; exact this
  subst h0
  simp only [List.getElem?_cons_zero, Option.some.injEq] at hk
  subst hk
  exact ⟨rfl, fun j v hv => by rw [add_none, h.cell]; simpa using hv⟩
/-- the cells of the one row of a box -/
theorem Rd.box {w : World} {B : Nat} {g sz : Nat} {r : List Value} (h : Rd w B (some ⟨g, 0, none⟩) sz [r]) : ∀ (j : Nat) (v : Value), r[j]? = some v → w.cell? ((⟨g, 0, none⟩ : Addr).add j) = some v := by
  intro j v hv
  rcases h with h | ⟨ad, e, _, hc⟩
  · cases h
  · injection e with e; subst e
    have := (hc 0 r rfl).2 j v hv
    simpa using this
theorem res_cap {w : World} {B t sz n cap : Nat} {A : Option Addr} {rows : List (List Value)} (h : Res B w t sz A n cap rows) : n ≤ cap := by
  rcases h.own.2 with ⟨h1, h2⟩ | ⟨g, c, cur, e, _, _, hnc, _⟩
  · simp only [Value.slice.injEq] at h1; omega
  · simp only [Value.slice.injEq] at e; omega
theorem Rd.boxT {w : World} {B g sz : Nat} {a b c : Value} (h : Rd w B (some ⟨g, 0, none⟩) sz [[a, b, c]]) : ∀ (j : Nat) (v : Value), [a, b][j]? = some v → w.cell? ((⟨g, 0, none⟩ : Addr).add j) = some v := fun j v hv => Rd.box h j v (by
  match j, hv with
  | 0, hv => simpa using hv
  | 1, hv => simpa using hv)
theorem below_all {w0 w1 w2 : World} (h : Below w0.heap.size w0 w1) (hb : Below w1.heap.size w1 w2) : Below w0.heap.size w0 w2 := h.trans (hb.mono h.size)
end Go.Proofs.YtbjdbpdgacfcpaaGreat
end

/- Sorting the indices: the row that is sorted, the comparison, the exchange of two ranges. -/
section
namespace Go.Proofs.YtbjdbpdgacfcpaaGreat
open Go.RowKit Go.BigFrame

def natRows (n : Nat) (f : Nat → Nat) : List (List Value) := (List.range n).map fun k => [Value.int .i64 ((f k : Nat) : Int)]
theorem natRows_get {n k : Nat} (f : Nat → Nat) (h : k < n) : (natRows n f)[k]? = some [Value.int .i64 ((f k : Nat) : Int)] := by simp [natRows, h]
theorem natRows_length (n : Nat) (f : Nat → Nat) : (natRows n f).length = n := by simp [natRows]
theorem natRows_sw {n i j : Nat} (f : Nat → Nat) : ((natRows n f).set i [Value.int .i64 ((f j : Nat) : Int)]).set j [Value.int .i64 ((f i : Nat) : Int)] = natRows n (sw i j f) := by
  apply List.ext_getElem?
  intro k
  simp only [natRows, List.getElem?_set, List.length_set, List.length_map, List.length_range, List.getElem?_map]
  by_cases hk : k < n
  · by_cases h2 : j = k
    · subst h2
      by_cases h1 : j = i
      · subst h1; simp [hk, sw]
      · simp [hk, sw, h1]
    · by_cases h1 : i = k
      · subst h1; simp [hk, sw, h2]
      · simp [hk, sw, h2, h1, Ne.symm h1, Ne.symm h2]
  · by_cases h2 : j = k
    · simp [hk, h2]
    · by_cases h1 : i = k
      · simp [hk, h2, h1]
      · simp [hk, h2, h1]
/-- only the row that is sorted has been turned since w0 -/
structure SW (B : Nat) (w0 w : World) (g n c : Nat) (f : Nat → Nat) : Prop where
  res : Res B w 3 1 (some ⟨g, 0, none⟩) n c (natRows n f)
  bl : Below B w0 w
  kp : ∀ k, k < w0.heap.size → k ≠ g → w.heap[k]? = w0.heap[k]?
namespace SW
variable {B g n c : Nat} {w0 w w' w1 : World} {f f' : Nat → Nat}
theorem start (h : Res B w 3 1 (some ⟨g, 0, none⟩) n c (natRows n f)) : SW B w w g n c f := ⟨h, Below.refl _ _, fun _ _ _ => rfl⟩
theorem gB (h : SW B w0 w g n c f) : B ≤ g ∧ g < w.heap.size := h.res.lt rfl
theorem trans (h : SW B w0 w1 g n c f) (h' : SW B w1 w g n c f') : SW B w0 w g n c f' :=
  ⟨h'.res, h.bl.trans h'.bl, fun k hk hg => (h'.kp k (Nat.lt_of_lt_of_le hk h.bl.size) hg).trans (h.kp k hk hg)⟩
theorem past (h : SW B w0 w g n c f) (hb : Below w.heap.size w w') : SW B w0 w' g n c f :=
  ⟨h.res.past hb, h.bl.trans (hb.mono (by have := h.gB; omega)), fun k hk hg => (hb.block k (Nat.lt_of_lt_of_le hk h.bl.size)).trans (h.kp k hk hg)⟩
theorem drew (h : SW B w0 w g n c f) : SW B w0 w.drew g n c f := ⟨h.res.drew, h.bl.drew, h.kp⟩
theorem cell (h : SW B w0 w g n c f) {k : Nat} (hk : k < n) : w.cell? ⟨g, k, none⟩ = some (.int .i64 ((f k : Nat) : Int)) ∧ w.frozen? ⟨g, k, none⟩ = false := by
  obtain ⟨g', h1, _, _, h2, h3, _⟩ := h.res.put (k := k) (j := 0) (natRows_get f hk) (by omega)
  injection h1 with h1; injection h1 with h1; subst h1
  rw [Nat.mul_one, Nat.add_zero] at h2 h3
  exact ⟨h2 _ rfl, h3⟩
theorem swap (h : SW B w0 w g n c f) {i j : Nat} (hi : i < n) (hj : j < n) :
    SW B w0 ((w.setCell ⟨g, i, none⟩ (.int .i64 ((f j : Nat) : Int))).setCell ⟨g, j, none⟩ (.int .i64 ((f i : Nat) : Int))) g n c (sw i j f) := by
  have hB := h.gB.1
  obtain ⟨g', h1, _, _, _, _, hp⟩ := h.res.put (k := i) (j := 0) (natRows_get f hi) (by omega)
  injection h1 with h1; injection h1 with h1; subst h1
  rw [Nat.mul_one, Nat.add_zero] at hp
  have hr := hp (.int .i64 ((f j : Nat) : Int))
  have hl : j < ((natRows n f).set i ([Value.int .i64 ((f i : Nat) : Int)].set 0 (Value.int .i64 ((f j : Nat) : Int)))).length := by simpa [natRows_length] using hj
  obtain ⟨r, hrr⟩ := get_of_lt hl
  have hlen := hr.all r (List.mem_of_getElem? hrr)
  obtain ⟨g', h1, _, _, _, _, hp2⟩ := hr.put (k := j) (j := 0) hrr (by omega)
  injection h1 with h1; injection h1 with h1; subst h1
  rw [Nat.mul_one, Nat.add_zero] at hp2
  have hr2 := hp2 (.int .i64 ((f i : Nat) : Int))
  have hr1 : r.set 0 (Value.int .i64 ((f i : Nat) : Int)) = [Value.int .i64 ((f i : Nat) : Int)] := by
    match r, hlen with
    | [_], _ => rfl
  rw [hr1, show [Value.int .i64 ((f i : Nat) : Int)].set 0 (Value.int .i64 ((f j : Nat) : Int)) = [Value.int .i64 ((f j : Nat) : Int)] from rfl, natRows_sw] at hr2
  refine ⟨hr2, (h.bl.setCell (p := ⟨g, i, none⟩) hB _).setCell (p := ⟨g, j, none⟩) hB _, fun k hk hg => ?_⟩
  rw [Below.heap_setCell _ _ _ _ (show k ≠ g from hg), Below.heap_setCell _ _ _ _ (show k ≠ g from hg)]
  exact h.kp k hk hg
end SW
/-- the comparison's answer -/
def cmpV (r : List Int) (x y : Nat) : Int := if r.getD y 0 < r.getD x 0 then -1 else if r.getD x 0 < r.getD y 0 then 1 else 0
theorem cmpV_neg {r : List Int} {x y : Nat} : cmpV r x y < 0 ↔ Gt r x y := by
  unfold cmpV Gt
  split
  · simp_all
  · split <;> simp_all
/-- what the comparison reads -/
structure Cm (w : World) (q1 q2 q3 g : Nat) (a s : Int) (X : Option Addr) (m xc : Nat) (ws : List Int) : Prop where
  b1 : Blk w q1 2 #[.int .i64 a]
  b2 : Blk w q2 24 #[.slice X m xc]
  b3 : Blk w q3 2 #[.int .i64 s]
  rd : Rd w w.heap.size X 1 (intRows ws)
  n1 : q1 ≠ g
  n2 : q2 ≠ g
  n3 : q3 ≠ g
  nX : ∀ ad, X = some ad → ad.block ≠ g
  len : ws.length = m
  a0 : 0 ≤ a
  a1 : a ≤ 1000000000
  s0 : 1 ≤ s
  s1 : s ≤ 1000000000000
  w0 : ∀ x ∈ ws, 0 ≤ x ∧ x ≤ 1000000000
namespace Cm
variable {w w' : World} {q1 q2 q3 g : Nat} {a s : Int} {X : Option Addr} {m xc : Nat} {ws : List Int}
theorem past (h : Cm w q1 q2 q3 g a s X m xc ws) (hb : Below w.heap.size w w') : Cm w' q1 q2 q3 g a s X m xc ws :=
  { h with b1 := h.b1.below' hb, b2 := h.b2.below' hb, b3 := h.b3.below' hb, rd := h.rd.past hb }
theorem sw {B n c : Nat} {f : Nat → Nat} (h : Cm w q1 q2 q3 g a s X m xc ws) (hs : SW B w w' g n c f) : Cm w' q1 q2 q3 g a s X m xc ws := by
  refine { h with b1 := (hs.kp _ h.b1.lt h.n1).trans h.b1, b2 := (hs.kp _ h.b2.lt h.n2).trans h.b2, b3 := (hs.kp _ h.b3.lt h.n3).trans h.b3, rd := ?_ }
  have hk : KeptBut w w' (some ⟨g, 0, none⟩) := fun k hk hne => hs.kp k hk (fun e => hne (by rw [e]; rfl))
  exact (h.rd.keptX hk (Nat.le_refl _) (fun ad e h2 => h.nX ad e (by injection h2))).more hs.bl.size
end Cm
set_option maxRecDepth 20000 in
set_option maxHeartbeats 4000000 in
theorem cmp_any {w : World} {q1 q2 q3 g : Nat} {a s : Int} {X : Option Addr} {m xc : Nat} {ws : List Int} (C : Cm w q1 q2 q3 g a s X m xc ws) {x y : Nat} (hx : x < m) (hy : y < m) :
    Calls Tryz.prog 186 #[.int .i64 (x : Int), .int .i64 (y : Int), .pointer (some ⟨q1, 0, none⟩), .pointer (some ⟨q2, 0, none⟩), .pointer (some ⟨q3, 0, none⟩)] w fun e w' => e = .returned (.int .i64 (cmpV (rests a s ws) x y)) ∧ Below w.heap.size w w' := by
  obtain ⟨u, hu⟩ := get_of_lt (xs := ws) (k := x) (by rw [C.len]; exact hx)
  obtain ⟨v, hv⟩ := get_of_lt (xs := ws) (k := y) (by rw [C.len]; exact hy)
  obtain ⟨u0, u1⟩ := C.w0 u (List.mem_of_getElem? hu)
  obtain ⟨v0, v1⟩ := C.w0 v (List.mem_of_getElem? hv)
  have a0 := C.a0; have a1 := C.a1; have s0 := C.s0; have s1 := C.s1
  have m1 := Int.mul_nonneg a0 u0
  have m2 := Int.mul_le_mul a1 u1 u0 (by omega)
  have m3 := Int.mul_nonneg a0 v0
  have m4 := Int.mul_le_mul a1 v1 v0 (by omega)
  have ru : (rests a s ws).getD x 0 = a * u % s := by simp [rests, hu]
  have rv : (rests a s ws).getD y 0 = a * v % s := by simp [rests, hv]
  have HQ := Lib.hid (show cmpV (rests a s ws) x y = if a * v % s < a * u % s then -1 else if a * u % s < a * v % s then 1 else 0 by unfold cmpV; rw [ru, rv])
  obtain ⟨ad, hX, had, hcu⟩ := C.rd.int_at hu
  obtain ⟨ad2, hX2, had2, hcv⟩ := C.rd.int_at hv
  rw [hX] at hX2
  injection hX2 with hX2; subst hX2; subst hX
  have d1 := fun z : Past w => Past.cell (C.b1.cell 0) z
  have d2 := fun z : Past w => Past.cell (C.b2.cell 0) z
  have d3 := fun z : Past w => Past.cell (C.b3.cell 0) z
  have d4 := fun z : Past w => Past.cell hcu z
  have d5 := fun z : Past w => Past.cell hcv z
  have hs0 : s ≠ 0 := by omega
  have hxm : (x : Int) < (m : Int) := by omega
  have hym : (y : Int) < (m : Int) := by omega
  clear hcu hcv ru rv hu hv C hx hy
  go_enter Tryz.func186, Tryz.ntmps186
  go_wp2
  refine wp_region_past (by kernel_rfl) (by kernel_rfl) ?_
  repeat (go_big_quiet_step (fail))
  refine wpQuiet_nil ?_
  rintro _ ⟨z, rfl⟩
  generalize a * u % s = ru at *
  generalize a * v % s = rv at *
  clear d1 d2 d3 d4 d5
  by_cases h1 : rv < ru
  · have H1 := Lib.hid h1
    have hb1 : decide (rv < ru) = true := by simpa using h1
    go_wp2
    go_ret
    exact ⟨by rw [HQ.out, if_pos H1.out]; rfl, z.2⟩
  · have H1 := Lib.hid h1
    have hb1 : decide (rv < ru) = false := by simpa using h1
    by_cases h2 : ru < rv
    · have H2 := Lib.hid h2
      have hb2 : decide (ru < rv) = true := by simpa using h2
      go_wp2
      go_ret
      exact ⟨by rw [HQ.out, if_neg (by have := H1.out; omega), if_pos H2.out]; rfl, z.2⟩
    · have H2 := Lib.hid h2
      have hb2 : decide (ru < rv) = false := by simpa using h2
      go_wp2
      go_ret
      exact ⟨by rw [HQ.out, if_neg (by have := H1.out; omega), if_neg (by have := H2.out; omega)]; rfl, z.2⟩
theorem cmp_past {w : World} {q1 q2 q3 g : Nat} {a s : Int} {X : Option Addr} {m xc : Nat} {ws : List Int} (C : Cm w q1 q2 q3 g a s X m xc ws) {x y : Nat} (hx : x < m) (hy : y < m) {v : Int} (hv : cmpV (rests a s ws) x y = v) (z : Past w) :
    Calls Tryz.prog 186 #[.int .i64 (x : Int), .int .i64 (y : Int), .pointer (some ⟨q1, 0, none⟩), .pointer (some ⟨q2, 0, none⟩), .pointer (some ⟨q3, 0, none⟩)] z.1 fun e w' => e = .returned (.int .i64 v) ∧ Below z.1.heap.size z.1 w' :=
  (cmp_any (C.past z.2) hx hy).mono (by rw [hv]; exact fun _ _ h => h)
set_option maxRecDepth 20000 in
set_option maxHeartbeats 4000000 in
theorem swapRange_any {B g n c : Nat} {w : World} {f : Nat → Nat} (x y k : Nat) (cf : Value) (h : SW B w w g n c f) (hn : n ≤ 1000) (hxy : x + k ≤ y) (hy : y + k ≤ n) :
    Calls Tryz.prog 205 #[.slice (some ⟨g, 0, none⟩) n c, .int .i64 (x : Int), .int .i64 (y : Int), .int .i64 (k : Int), cf] w fun e w' => e = .returned (.tuple #[]) ∧ SW B w w' g n c (swr x y k f) := by
  have HS := Lib.hid h; clear h
  go_enter Tryz.func205, Tryz.ntmps205
  go_wp2
  go_loopw [10] (fun i wr => ∃ j : Nat, j ≤ k ∧ i = .int .i64 j ∧ SW B w wr g n c (swr x y j f)) (fun i _ => k - (intOf i).toNat)
  case atStart => exact ⟨0, by omega, rfl, by rw [swr_zero]; exact HS.out⟩
  case round =>
    obtain ⟨j, hj, rfl, h⟩ := hrel
    have HW := Lib.hid h; clear h
    by_cases hlt : j < k
    · obtain ⟨c1, z1⟩ := HW.out.cell (k := x + j) (by omega)
      obtain ⟨c2, z2⟩ := HW.out.cell (k := y + j) (by omega)
      have hji : (j : Int) < (k : Int) := by omega
      have hb1 : (x : Int) + (j : Int) < (n : Int) := by omega
      have hb2 : (y : Int) + (j : Int) < (n : Int) := by omega
      have hb3 : (n : Int) ≤ 1000 := by omega
      go_wp2
      go_region
      go_wp2
      go_roundw
      case rel => exact ⟨j + 1, by omega, by go_num, by rw [← swr_succ (by omega)]; exact (HW.out.swap (by omega) (by omega)).drew⟩
      case measure => simp [intOf]; omega
    · have hjk : j = k := by omega
      subst hjk
      go_wp2
      go_end0
      exact ⟨rfl, HW.out⟩
end Go.Proofs.YtbjdbpdgacfcpaaGreat
end
