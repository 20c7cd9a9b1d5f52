/- Parts of a proof, one after another: SortP, Base2, Put, App, Tail, App2. No condition. -/
import Derived.Test.YtbjdbpdgacfcpaaGreatK0
import Derived.StillTail
/- The stable order by rests, on positions: plain laws. No program. -/
section
namespace Go.Proofs.YtbjdbpdgacfcpaaGreat

/-- what the comparison says: x has the greater rest -/
def Gt (r : List Int) (x y : Nat) : Prop := r.getD y 0 < r.getD x 0
section
variable {r : List Int} {x y z : Nat}
theorem Gt.bef (h : Gt r x y) : Bef r x y := .inl h
theorem Bef.trans (h : Bef r x y) (h' : Bef r y z) : Bef r x z := by unfold Bef at *; omega
theorem Bef.irrefl (h : Bef r x x) : False := by unfold Bef at h; omega
theorem bef_left (h : x < y) (hn : ¬ Gt r y x) : Bef r x y := by unfold Bef; unfold Gt at hn; omega
theorem Gt.up (h : Bef r x y) (hg : Gt r y z) : Gt r x z := by unfold Bef at h; unfold Gt at *; omega
theorem Gt.down (h : Bef r x y) (hg : ¬ Gt r x z) : ¬ Gt r y z := by unfold Bef at h; unfold Gt at *; omega
theorem Gt.right (h : Bef r x y) (hg : Gt r z x) : Gt r z y := by unfold Bef at h; unfold Gt at *; omega
theorem Gt.rdown (h : Bef r x y) (hg : ¬ Gt r z y) : ¬ Gt r z x := by unfold Bef at h; unfold Gt at *; omega
end
/-- sorted between a and b -/
def Srt (r : List Int) (f : Nat → Nat) (a b : Nat) : Prop := ∀ i j, a ≤ i → i < j → j < b → Bef r (f i) (f j)
/-- what stands from a to m is smaller than what stands from m to b -/
def LR (f : Nat → Nat) (a m b : Nat) : Prop := ∀ i j, a ≤ i → i < m → m ≤ j → j < b → f i < f j
/-- only what stands between a and b has been moved -/
structure Mv (a b : Nat) (f g : Nat → Nat) : Prop where
  out : ∀ k, k < a ∨ b ≤ k → g k = f k
  from_ : ∀ k, a ≤ k → k < b → ∃ j, a ≤ j ∧ j < b ∧ g k = f j
  to : ∀ j, a ≤ j → j < b → ∃ k, a ≤ k ∧ k < b ∧ g k = f j
theorem Mv.refl (a b : Nat) (f : Nat → Nat) : Mv a b f f := ⟨fun _ _ => rfl, fun k h h' => ⟨k, h, h', rfl⟩, fun k h h' => ⟨k, h, h', rfl⟩⟩
theorem Mv.trans {a b : Nat} {f g h : Nat → Nat} (m : Mv a b f g) (m' : Mv a b g h) : Mv a b f h := by
  refine ⟨fun k hk => (m'.out k hk).trans (m.out k hk), fun k h1 h2 => ?_, fun j h1 h2 => ?_⟩
  · obtain ⟨i, i1, i2, e⟩ := m'.from_ k h1 h2
    obtain ⟨j, j1, j2, e'⟩ := m.from_ i i1 i2
    exact ⟨j, j1, j2, e.trans e'⟩
  · obtain ⟨i, i1, i2, e⟩ := m.to j h1 h2
    obtain ⟨k, k1, k2, e'⟩ := m'.to i i1 i2
    exact ⟨k, k1, k2, e'.trans e⟩
theorem Mv.wide {a b a' b' : Nat} {f g : Nat → Nat} (m : Mv a b f g) (ha : a' ≤ a) (hb : b ≤ b') : Mv a' b' f g := by
  refine ⟨fun k hk => m.out k (by omega), fun k h1 h2 => ?_, fun j h1 h2 => ?_⟩
  · by_cases h : a ≤ k ∧ k < b
    · obtain ⟨j, j1, j2, e⟩ := m.from_ k h.1 h.2
      exact ⟨j, by omega, by omega, e⟩
    · exact ⟨k, h1, h2, m.out k (by omega)⟩
  · by_cases h : a ≤ j ∧ j < b
    · obtain ⟨k, k1, k2, e⟩ := m.to j h.1 h.2
      exact ⟨k, by omega, by omega, e⟩
    · exact ⟨j, h1, h2, m.out j (by omega)⟩
/-- two are exchanged -/
def sw (i j : Nat) (f : Nat → Nat) (k : Nat) : Nat := if k = i then f j else if k = j then f i else f k
theorem Mv.sw {a b i j : Nat} (f : Nat → Nat) (i1 : a ≤ i) (i2 : i < b) (j1 : a ≤ j) (j2 : j < b) : Mv a b f (Go.Proofs.YtbjdbpdgacfcpaaGreat.sw i j f) := by
  refine ⟨fun k hk => ?_, fun k h1 h2 => ?_, fun k h1 h2 => ?_⟩
  · unfold Go.Proofs.YtbjdbpdgacfcpaaGreat.sw; rw [if_neg (by omega), if_neg (by omega)]
  · unfold Go.Proofs.YtbjdbpdgacfcpaaGreat.sw
    by_cases h : k = i
    · exact ⟨j, j1, j2, by rw [if_pos h]⟩
    · by_cases h' : k = j
      · exact ⟨i, i1, i2, by rw [if_neg h, if_pos h']⟩
      · exact ⟨k, h1, h2, by rw [if_neg h, if_neg h']⟩
  · unfold Go.Proofs.YtbjdbpdgacfcpaaGreat.sw
    by_cases h : k = i
    · by_cases hij : j = i
      · exact ⟨k, h1, h2, by rw [if_pos h, hij, h]⟩
      · exact ⟨j, j1, j2, by rw [if_neg hij, if_pos rfl, h]⟩
    · by_cases h' : k = j
      · exact ⟨i, i1, i2, by rw [if_pos rfl, h']⟩
      · exact ⟨k, h1, h2, by rw [if_neg h, if_neg h']⟩
theorem Srt.of_out {r : List Int} {f g : Nat → Nat} {a b : Nat} (h : Srt r f a b) (e : ∀ k, a ≤ k → k < b → g k = f k) : Srt r g a b :=
  fun i j h1 h2 h3 => by rw [e i h1 (by omega), e j (by omega) h3]; exact h i j h1 h2 h3
theorem Srt.sub {r : List Int} {f : Nat → Nat} {a b a' b' : Nat} (h : Srt r f a b) (ha : a ≤ a') (hb : b' ≤ b) : Srt r f a' b' :=
  fun i j h1 h2 h3 => h i j (by omega) h2 (by omega)
theorem Srt.tiny (r : List Int) (f : Nat → Nat) {a b : Nat} (h : b ≤ a + 1) : Srt r f a b := fun i j h1 h2 h3 => by omega

/-! insertion -/
/-- before round i of the insertion sort of [a, b) -/
structure Ins (r : List Int) (a b i : Nat) (f0 f : Nat → Nat) : Prop where
  lo : a ≤ i
  mv : Mv a b f0 f
  srt : Srt r f a i
  lr : LR f a i b
  inc : ∀ p q, i ≤ p → p < q → q < b → f p < f q
/-- in round i: the new one stands at j -/
structure Inn (r : List Int) (a b i j : Nat) (f0 f : Nat → Nat) : Prop where
  aj : a ≤ j
  ji : j ≤ i
  ib : i < b
  mv : Mv a b f0 f
  oth : ∀ p q, a ≤ p → p < q → q ≤ i → p ≠ j → q ≠ j → Bef r (f p) (f q)
  mine : ∀ q, j < q → q ≤ i → Bef r (f j) (f q)
  big : ∀ p, a ≤ p → p ≤ i → p ≠ j → f p < f j
  lr : LR f a (i + 1) b
  inc : ∀ p q, i + 1 ≤ p → p < q → q < b → f p < f q
theorem Ins.start {r : List Int} {a b : Nat} {f : Nat → Nat} (h : ∀ p q, a ≤ p → p < q → q < b → f p < f q) : Ins r a b (a + 1) f f :=
  ⟨by omega, Mv.refl _ _ _, Srt.tiny r f (Nat.le_refl _), fun i j h1 h2 h3 h4 => h i j h1 (by omega) h4, fun p q h1 h2 h3 => h p q (by omega) h2 h3⟩
theorem Ins.zero {r : List Int} {a b : Nat} {f : Nat → Nat} (h : ∀ p q, a ≤ p → p < q → q < b → f p < f q) : Ins r a b a f f :=
  ⟨by omega, Mv.refl _ _ _, Srt.tiny r f (by omega), fun i j h1 h2 h3 h4 => by omega, fun p q h1 h2 h3 => h p q (by omega) h2 h3⟩
theorem Ins.inn {r : List Int} {a b i : Nat} {f0 f : Nat → Nat} (h : Ins r a b i f0 f) (hi : i < b) : Inn r a b i i f0 f := by
  refine ⟨h.lo, Nat.le_refl _, hi, h.mv, fun p q h1 h2 h3 h4 h5 => h.srt p q h1 h2 (by omega), fun q h1 h2 => by omega, fun p h1 h2 h3 => h.lr p i h1 (by omega) (Nat.le_refl _) hi, fun p q h1 h2 h3 h4 => ?_, fun p q h1 h2 h3 => h.inc p q (by omega) h2 h3⟩
  by_cases hp : p = i
  · subst hp; exact h.inc p q (Nat.le_refl _) (by omega) h4
  · exact h.lr p q h1 (by omega) (by omega) h4
theorem Inn.stop {r : List Int} {a b i j : Nat} {f0 f : Nat → Nat} (h : Inn r a b i j f0 f) (hs : j = a ∨ ¬ Gt r (f j) (f (j - 1))) : Ins r a b (i + 1) f0 f := by
  have haj := h.aj; have hji := h.ji
  refine ⟨by omega, h.mv, fun p q h1 h2 h3 => ?_, h.lr, h.inc⟩
  by_cases hp : p = j
  · subst hp; exact h.mine q h2 (by omega)
  · by_cases hq : q = j
    · subst hq
      rcases hs with hs | hs
      · omega
      · have h5 : Bef r (f (q - 1)) (f q) := bef_left (h.big (q - 1) (by omega) (by omega) (by omega)) hs
        by_cases h6 : p = q - 1
        · rw [h6]; exact h5
        · exact (h.oth p (q - 1) h1 (by omega) (by omega) hp (by omega)).trans h5
    · exact h.oth p q h1 h2 (by omega) hp hq
theorem Inn.step {r : List Int} {a b i j : Nat} {f0 f : Nat → Nat} (h : Inn r a b i j f0 f) (hj : a < j) (hg : Gt r (f j) (f (j - 1))) : Inn r a b i (j - 1) f0 (sw j (j - 1) f) := by
  have haj := h.aj; have hji := h.ji; have hib := h.ib
  have e1 : sw j (j - 1) f j = f (j - 1) := by unfold sw; rw [if_pos rfl]
  have e2 : sw j (j - 1) f (j - 1) = f j := by unfold sw; rw [if_neg (by omega), if_pos rfl]
  have e3 : ∀ k, k ≠ j → k ≠ j - 1 → sw j (j - 1) f k = f k := fun k h1 h2 => by unfold sw; rw [if_neg h1, if_neg h2]
  refine ⟨by omega, by omega, hib, h.mv.trans (Mv.sw f (by omega) (by omega) (by omega) (by omega)), fun p q h1 h2 h3 h4 h5 => ?_, fun q h1 h2 => ?_, fun p h1 h2 h3 => ?_, fun p q h1 h2 h3 h4 => ?_, fun p q h1 h2 h3 => ?_⟩
  · by_cases hp : p = j
    · rw [hp, e1, e3 q (by omega) h5]
      exact h.oth (j - 1) q (by omega) (by omega) h3 (by omega) (by omega)
    · by_cases hq : q = j
      · rw [hq, e1, e3 p hp h4]
        exact h.oth p (j - 1) h1 (by omega) (by omega) hp (by omega)
      · rw [e3 p hp h4, e3 q hq h5]
        exact h.oth p q h1 h2 h3 hp hq
  · rw [e2]
    by_cases hq : q = j
    · rw [hq, e1]; exact hg.bef
    · rw [e3 q hq (by omega)]; exact h.mine q (by omega) h2
  · rw [e2]
    by_cases hp : p = j
    · rw [hp, e1]; exact h.big (j - 1) (by omega) (by omega) (by omega)
    · rw [e3 p hp h3]; exact h.big p h1 h2 hp
  · rw [e3 q (by omega) (by omega)]
    by_cases hp : p = j
    · rw [hp, e1]; exact h.lr (j - 1) q (by omega) (by omega) h3 h4
    · by_cases hp' : p = j - 1
      · rw [hp', e2]; exact h.lr j q (by omega) (by omega) h3 h4
      · rw [e3 p hp hp']; exact h.lr p q h1 h2 h3 h4
  · rw [e3 p (by omega) (by omega), e3 q (by omega) (by omega)]; exact h.inc p q h1 h2 h3

/-! one alone is merged into the others -/
/-- the one at a has come to k, those between have gone one down -/
def mvR (a k : Nat) (f : Nat → Nat) (p : Nat) : Nat := if p = k then f a else if a ≤ p ∧ p < k then f (p + 1) else f p
theorem mvR_zero (a : Nat) (f : Nat → Nat) : mvR a a f = f := by
  funext p; unfold mvR
  split
  · rename_i h; rw [h]
  · rw [if_neg (by omega)]
theorem mvR_succ {a k : Nat} (h : a ≤ k) (f : Nat → Nat) : sw k (k + 1) (mvR a k f) = mvR a (k + 1) f := by
  funext p; unfold sw mvR
  by_cases h1 : p = k
  · subst h1
    rw [if_pos rfl, if_neg (by omega), if_neg (by omega), if_neg (by omega), if_pos ⟨h, by omega⟩]
  · rw [if_neg h1]
    by_cases h2 : p = k + 1
    · subst h2; rw [if_pos rfl, if_pos rfl, if_pos rfl]
    · rw [if_neg h2, if_neg h2, if_neg h1]
      by_cases h3 : a ≤ p ∧ p < k
      · rw [if_pos h3, if_pos ⟨h3.1, by omega⟩]
      · rw [if_neg h3, if_neg (by omega)]
theorem mvR_mv {a b : Nat} (f : Nat → Nat) : ∀ k, a ≤ k → k < b → Mv a b f (mvR a k f)
  | 0, h, _ => by
    have : a = 0 := by omega
    subst this; rw [mvR_zero]; exact Mv.refl _ _ _
  | k + 1, h, hb => by
    by_cases hk : a = k + 1
    · rw [← hk, mvR_zero]; exact Mv.refl _ _ _
    · rw [← mvR_succ (by omega)]
      exact (mvR_mv f k (by omega) (by omega)).trans (Mv.sw _ (by omega) (by omega) (by omega) (by omega))
theorem merge_first {r : List Int} {a b i : Nat} {f : Nat → Nat} (hs : Srt r f (a + 1) b) (hl : LR f a (a + 1) b) (hi : a + 1 ≤ i) (hib : i ≤ b)
    (h1 : ∀ k, a + 1 ≤ k → k < i → Gt r (f k) (f a)) (h2 : ∀ k, i ≤ k → k < b → ¬ Gt r (f k) (f a)) : Srt r (mvR a (i - 1) f) a b := by
  intro p q hp hpq hq
  unfold mvR
  by_cases hq1 : q = i - 1
  · rw [if_pos hq1, if_neg (by omega), if_pos ⟨hp, by omega⟩]
    exact (h1 (p + 1) (by omega) (by omega)).bef
  · rw [if_neg hq1]
    by_cases hp1 : p = i - 1
    · rw [if_pos hp1, if_neg (by omega)]
      exact bef_left (hl a q (by omega) (by omega) (by omega) hq) (h2 q (by omega) hq)
    · rw [if_neg hp1]
      by_cases hp2 : p < i - 1
      · rw [if_pos ⟨hp, hp2⟩]
        by_cases hq2 : q < i - 1
        · rw [if_pos ⟨by omega, hq2⟩]; exact hs (p + 1) (q + 1) (by omega) (by omega) (by omega)
        · rw [if_neg (by omega)]; exact hs (p + 1) q (by omega) (by omega) hq
      · rw [if_neg (by omega), if_neg (by omega)]; exact hs p q (by omega) hpq hq
/-- the one at m has come to k, those between have gone one up -/
def mvL (m k : Nat) (f : Nat → Nat) (p : Nat) : Nat := if p = k then f m else if k < p ∧ p ≤ m then f (p - 1) else f p
theorem mvL_zero (m : Nat) (f : Nat → Nat) : mvL m m f = f := by
  funext p; unfold mvL
  split
  · rename_i h; rw [h]
  · rw [if_neg (by omega)]
theorem mvL_succ {m k : Nat} (h : k ≤ m) (h0 : 0 < k) (f : Nat → Nat) : sw k (k - 1) (mvL m k f) = mvL m (k - 1) f := by
  funext p; unfold sw mvL
  by_cases h1 : p = k
  · subst h1
    rw [if_pos rfl, if_neg (by omega), if_neg (by omega), if_neg (by omega), if_pos ⟨by omega, h⟩]
  · rw [if_neg h1]
    by_cases h2 : p = k - 1
    · rw [if_pos h2, if_pos h2, if_pos rfl]
    · rw [if_neg h2, if_neg h2, if_neg h1]
      by_cases h3 : k < p ∧ p ≤ m
      · rw [if_pos h3, if_pos ⟨by omega, h3.2⟩]
      · rw [if_neg h3, if_neg (by omega)]
theorem mvL_mv {a m b : Nat} (f : Nat → Nat) (hm : m < b) : ∀ d k, k + d = m → a ≤ k → Mv a b f (mvL m k f)
  | 0, k, e, _ => by
    have : k = m := by omega
    subst this; rw [mvL_zero]; exact Mv.refl _ _ _
  | d + 1, k, e, ha => by
    have h := mvL_succ (m := m) (k := k + 1) (by omega) (by omega) f
    rw [Nat.add_sub_cancel] at h
    rw [← h]
    exact (mvL_mv f hm d (k + 1) (by omega) (by omega)).trans (Mv.sw _ (by omega) (by omega) (by omega) (by omega))
theorem merge_last {r : List Int} {a m i : Nat} {f : Nat → Nat} (hs : Srt r f a m) (hl : LR f a m (m + 1)) (hi : a ≤ i) (him : i ≤ m)
    (h1 : ∀ k, a ≤ k → k < i → ¬ Gt r (f m) (f k)) (h2 : ∀ k, i ≤ k → k < m → Gt r (f m) (f k)) : Srt r (mvL m i f) a (m + 1) := by
  intro p q hp hpq hq
  unfold mvL
  by_cases hq1 : q = i
  · rw [if_pos hq1, if_neg (by omega), if_neg (by omega)]
    exact bef_left (hl p m hp (by omega) (Nat.le_refl _) (by omega)) (h1 p hp (by omega))
  · rw [if_neg hq1]
    by_cases hp1 : p = i
    · rw [if_pos hp1, if_pos ⟨by omega, by omega⟩]
      exact (h2 (q - 1) (by omega) (by omega)).bef
    · rw [if_neg hp1]
      by_cases hp2 : i < p
      · rw [if_pos ⟨hp2, by omega⟩, if_pos ⟨by omega, by omega⟩]; exact hs (p - 1) (q - 1) (by omega) (by omega) (by omega)
      · rw [if_neg (by omega)]
        by_cases hq2 : i < q
        · rw [if_pos ⟨hq2, by omega⟩]; exact hs p (q - 1) hp (by omega) (by omega)
        · rw [if_neg (by omega)]; exact hs p q hp hpq (by omega)

/-! rotation -/
/-- [a, m) and [m, b) have changed places -/
def rotF (a m b : Nat) (f : Nat → Nat) (k : Nat) : Nat := if k < a ∨ b ≤ k then f k else if k < a + (b - m) then f (k + (m - a)) else f (k - (b - m))
/-- n from x and n from y have changed places -/
def swr (x y n : Nat) (f : Nat → Nat) (k : Nat) : Nat := if x ≤ k ∧ k < x + n then f (k - x + y) else if y ≤ k ∧ k < y + n then f (k - y + x) else f k
theorem swr_zero (x y : Nat) (f : Nat → Nat) : swr x y 0 f = f := by
  funext k; unfold swr; rw [if_neg (by omega), if_neg (by omega)]
theorem swr_succ {x y n : Nat} (h : x + n < y) (f : Nat → Nat) : sw (x + n) (y + n) (swr x y n f) = swr x y (n + 1) f := by
  funext k; unfold sw swr
  by_cases h1 : k = x + n
  · rw [if_pos h1, if_neg (by omega), if_neg (by omega), if_pos ⟨by omega, by omega⟩]
    congr 1; omega
  · rw [if_neg h1]
    by_cases h2 : k = y + n
    · rw [if_pos h2, if_neg (by omega), if_neg (by omega), if_neg (by omega), if_pos ⟨by omega, by omega⟩]
      congr 1; omega
    · rw [if_neg h2]
      by_cases h3 : x ≤ k ∧ k < x + n
      · rw [if_pos h3, if_pos ⟨h3.1, by omega⟩]
      · rw [if_neg h3, if_neg (show ¬ (x ≤ k ∧ k < x + (n + 1)) by omega)]
        by_cases h4 : y ≤ k ∧ k < y + n
        · rw [if_pos h4, if_pos ⟨h4.1, by omega⟩]
        · rw [if_neg h4, if_neg (by omega)]
theorem rot_left {m i j : Nat} (hj : j < i) (hi : i ≤ m) (f : Nat → Nat) : rotF (m - (i - j)) m (m + j) (swr (m - i) m j f) = rotF (m - i) m (m + j) f := by
  funext k; unfold rotF swr
  by_cases h1 : k < m - i ∨ m + j ≤ k
  · rw [if_pos (show k < m - (i - j) ∨ m + j ≤ k by omega), if_pos h1, if_neg (by omega), if_neg (by omega)]
  · rw [if_neg h1]
    by_cases h2 : k < m - i + j
    · rw [if_pos (show k < m - (i - j) ∨ m + j ≤ k by omega), if_pos (show k < m - i + (m + j - m) by omega), if_pos ⟨by omega, h2⟩]
      congr 1; omega
    · rw [if_neg (show ¬ (k < m - (i - j) ∨ m + j ≤ k) by omega), if_neg (show ¬ k < m - i + (m + j - m) by omega)]
      by_cases h3 : k < m - (i - j) + (m + j - m)
      · rw [if_pos h3, if_neg (by omega), if_pos (show m ≤ k + (m - (m - (i - j))) ∧ k + (m - (m - (i - j))) < m + j by omega)]
        congr 1; omega
      · rw [if_neg h3, if_neg (by omega), if_neg (by omega)]
theorem rot_right {m i j : Nat} (hj : i < j) (hi : i ≤ m) (f : Nat → Nat) : rotF (m - i) m (m + (j - i)) (swr (m - i) (m + j - i) i f) = rotF (m - i) m (m + j) f := by
  funext k; unfold rotF swr
  by_cases h1 : k < m - i ∨ m + j ≤ k
  · rw [if_pos (show k < m - i ∨ m + (j - i) ≤ k by omega), if_pos h1, if_neg (by omega), if_neg (by omega)]
  · rw [if_neg h1]
    by_cases h2 : k < m + (j - i)
    · rw [if_neg (show ¬ (k < m - i ∨ m + (j - i) ≤ k) by omega)]
      by_cases h3 : k < m - i + (m + (j - i) - m)
      · rw [if_pos h3, if_pos (show k < m - i + (m + j - m) by omega)]
        by_cases h4 : k + (m - (m - i)) < m + j - i
        · rw [if_neg (by omega), if_neg (by omega)]
        · omega
      · rw [if_neg h3]
        by_cases h4 : k < m - i + (m + j - m)
        · rw [if_pos h4, if_pos (show m - i ≤ k - (m + (j - i) - m) ∧ k - (m + (j - i) - m) < m - i + i by omega)]
          congr 1; omega
        · omega
    · rw [if_pos (show k < m - i ∨ m + (j - i) ≤ k by omega), if_neg (show ¬ k < m - i + (m + j - m) by omega), if_neg (by omega), if_pos (show m + j - i ≤ k ∧ k < m + j - i + i by omega)]
      congr 1; omega
theorem rot_same {m i : Nat} (hi : i ≤ m) (f : Nat → Nat) : swr (m - i) m i f = rotF (m - i) m (m + i) f := by
  funext k; unfold rotF swr
  by_cases h1 : k < m - i ∨ m + i ≤ k
  · rw [if_pos h1, if_neg (by omega), if_neg (by omega)]
  · rw [if_neg h1]
    by_cases h2 : k < m - i + (m + i - m)
    · rw [if_pos h2, if_pos ⟨by omega, by omega⟩]; congr 1; omega
    · rw [if_neg h2, if_neg (by omega), if_pos ⟨by omega, by omega⟩]; congr 1; omega
theorem rot_none {a m b : Nat} (h : m = a ∨ b = m) (ha : a ≤ m) (hb : m ≤ b) (f : Nat → Nat) : rotF a m b f = f := by
  funext k; unfold rotF
  by_cases h1 : k < a ∨ b ≤ k
  · rw [if_pos h1]
  · rw [if_neg h1]
    rcases h with h | h
    · subst h; rw [if_pos (by omega)]; congr 1; omega
    · subst h; rw [if_neg (by omega)]; congr 1; omega
theorem rot_mv {a m b : Nat} (ha : a ≤ m) (hb : m ≤ b) (f : Nat → Nat) : Mv a b f (rotF a m b f) := by
  refine ⟨fun k hk => if_pos hk, fun k h1 h2 => ?_, fun j h1 h2 => ?_⟩
  · unfold rotF; rw [if_neg (by omega)]
    by_cases h3 : k < a + (b - m)
    · exact ⟨k + (m - a), by omega, by omega, if_pos h3⟩
    · exact ⟨k - (b - m), by omega, by omega, if_neg h3⟩
  · by_cases h3 : j < m
    · refine ⟨j + (b - m), by omega, by omega, ?_⟩
      unfold rotF; rw [if_neg (by omega), if_neg (by omega)]; congr 1; omega
    · refine ⟨j - (m - a), by omega, by omega, ?_⟩
      unfold rotF; rw [if_neg (by omega), if_pos (by omega)]; congr 1; omega

/-! symmetric merging -/
/-- the search has ended: where it is to be cut -/
structure CutAt (r : List Int) (a m b mid s : Nat) (f : Nat → Nat) : Prop where
  am : a ≤ m
  mb : m ≤ b
  ac : a ≤ s
  sm : s ≤ m
  smid : s ≤ mid
  eb : mid + m - s ≤ b
  em : mid ≤ mid + m - s
  me : m ≤ mid + m - s
  left : a < s → mid + m - s < b → ¬ Gt r (f (mid + m - s)) (f (s - 1))
  right : s < m → m < mid + m - s → Gt r (f (mid + m - s - 1)) (f s)
/-- behind the rotation: what the two halves are -/
theorem CutAt.halves {r : List Int} {a m b mid s : Nat} {f : Nat → Nat} (h : CutAt r a m b mid s f) (h1 : Srt r f a m) (h2 : Srt r f m b) (hl : LR f a m b) :
    let g := rotF s m (mid + m - s) f
    Srt r g a s ∧ Srt r g s mid ∧ LR g a s mid ∧ Srt r g mid (mid + m - s) ∧ Srt r g (mid + m - s) b ∧ LR g mid (mid + m - s) b ∧ (∀ p q, a ≤ p → p < mid → mid ≤ q → q < b → Bef r (g p) (g q)) := by
  have am := h.am; have mb := h.mb; have ac := h.ac; have sm := h.sm; have smid := h.smid; have eb := h.eb; have em := h.em; have me := h.me
  intro g
  obtain ⟨e, he⟩ : ∃ e, e = mid + m - s := ⟨_, rfl⟩
  have hg : g = rotF s m e f := by show rotF s m (mid + m - s) f = _; rw [he]
  have hL := h.left; have hR := h.right
  rw [← he] at eb em me hL hR ⊢
  have g1 : ∀ k, k < s → g k = f k := fun k hk => by rw [hg]; exact if_pos (.inl hk)
  have g2 : ∀ k, s ≤ k → k < mid → g k = f (k + (m - s)) := fun k hk hk' => by rw [hg]; unfold rotF; rw [if_neg (by omega), if_pos (by omega)]
  have g3 : ∀ k, mid ≤ k → k < e → g k = f (k - (e - m)) := fun k hk hk' => by rw [hg]; unfold rotF; rw [if_neg (by omega), if_neg (by omega)]
  have g4 : ∀ k, e ≤ k → g k = f k := fun k hk => by rw [hg]; exact if_pos (.inr hk)
  refine ⟨fun i j i1 i2 i3 => ?_, fun i j i1 i2 i3 => ?_, fun i j i1 i2 i3 i4 => ?_, fun i j i1 i2 i3 => ?_, fun i j i1 i2 i3 => ?_, fun i j i1 i2 i3 i4 => ?_, fun p q p1 p2 q1 q2 => ?_⟩
  · rw [g1 i (by omega), g1 j i3]; exact h1 i j i1 i2 (by omega)
  · rw [g2 i i1 (by omega), g2 j (by omega) i3]; exact h2 _ _ (by omega) (by omega) (by omega)
  · rw [g1 i i2, g2 j i3 i4]; exact hl _ _ i1 (by omega) (by omega) (by omega)
  · rw [g3 i i1 (by omega), g3 j (by omega) i3]; exact h1 _ _ (by omega) (by omega) (by omega)
  · rw [g4 i i1, g4 j (by omega)]; exact h2 i j (by omega) i2 i3
  · rw [g3 i i1 i2, g4 j i3]; exact hl _ _ (by omega) (by omega) (by omega) i4
  · by_cases hp : p < s
    · rw [g1 p hp]
      by_cases hq : q < e
      · rw [g3 q q1 hq]; exact h1 p _ p1 (by omega) (by omega)
      · rw [g4 q (by omega)]
        have hx : Bef r (f (s - 1)) (f e) := bef_left (hl _ _ (by omega) (by omega) (by omega) (by omega)) (hL (by omega) (by omega))
        have hy : Bef r (f p) (f e) := by
          by_cases hps : p = s - 1
          · rw [hps]; exact hx
          · exact (h1 p (s - 1) p1 (by omega) (by omega)).trans hx
        by_cases hqe : q = e
        · rw [hqe]; exact hy
        · exact hy.trans (h2 e q (by omega) (by omega) q2)
    · rw [g2 p (by omega) p2]
      by_cases hq : q < e
      · rw [g3 q q1 hq]
        have hx : Bef r (f (e - 1)) (f s) := (hR (by omega) (by omega)).bef
        have hy : Bef r (f (p + (m - s))) (f s) := by
          by_cases hpe : p + (m - s) = e - 1
          · rw [hpe]; exact hx
          · exact (h2 _ (e - 1) (by omega) (by omega) (by omega)).trans hx
        by_cases hqs : q - (e - m) = s
        · rw [hqs]; exact hy
        · exact hy.trans (h1 s _ (by omega) (by omega) (by omega))
      · rw [g4 q (by omega)]; exact h2 _ q (by omega) (by omega) q2
/-- both halves are sorted, and so is the whole -/
theorem halves_join {r : List Int} {a mid b : Nat} {g g1 g2 : Nat → Nat} (hc : ∀ p q, a ≤ p → p < mid → mid ≤ q → q < b → Bef r (g p) (g q)) (ha : a ≤ mid) (hb : mid ≤ b)
    (m1 : Mv a mid g g1) (s1 : Srt r g1 a mid) (m2 : Mv mid b g1 g2) (s2 : Srt r g2 mid b) : Srt r g2 a b ∧ Mv a b g g2 := by
  refine ⟨fun i j i1 i2 i3 => ?_, (m1.wide (Nat.le_refl _) hb).trans (m2.wide ha (Nat.le_refl _))⟩
  by_cases hi : i < mid
  · by_cases hj : j < mid
    · rw [m2.out i (.inl hi), m2.out j (.inl hj)]; exact s1 i j i1 i2 hj
    · obtain ⟨p, p1, p2, e⟩ := m1.from_ i i1 hi
      obtain ⟨q, q1, q2, e'⟩ := m2.from_ j (by omega) i3
      rw [m2.out i (.inl hi), e, e', m1.out q (.inr q1)]
      exact hc p q p1 p2 q1 q2
  · exact s2 i j (by omega) i2 i3
/-- the list of positions is an order of the indices -/
theorem ordered_of {r : List Int} {n : Nat} {g : Nat → Nat} (hn : r.length = n) (hm : Mv 0 n (fun k => k) g) (hs : Srt r g 0 n) : OrderedN r ((List.range n).map g) := by
  refine ⟨by simp [hn], fun i => ⟨fun hi => ?_, fun hi => ?_⟩, ?_⟩
  · obtain ⟨k, hk, rfl⟩ := List.mem_map.1 hi
    have hk' : k < n := by simpa using hk
    obtain ⟨j, _, j2, e⟩ := hm.from_ k (by omega) hk'
    have e2 : g k = j := e
    rw [e2, hn]; exact j2
  · obtain ⟨k, _, k2, e⟩ := hm.to i (by omega) (by rw [← hn]; exact hi)
    exact List.mem_map.2 ⟨k, by simpa using k2, e⟩
  · rw [List.pairwise_map]
    refine List.Pairwise.imp_of_mem (fun {a b} ha hb hab => ?_) (List.pairwise_lt_range (n := n))
    exact hs a b (by omega) hab (by simpa using hb)
end Go.Proofs.YtbjdbpdgacfcpaaGreat
end

/- More words for memory: structs loaded inside regions that draw their order; boxes behind later worlds; the first element with a property. No condition. -/
section
namespace Go.Proofs.YtbjdbpdgacfcpaaGreat
open Go.RowKit Go.BigFrame
theorem quiet_load_agg {P : Program} {C : World → Prop} {K : Act → Prop} {a : Act} {o : Oper} (ty : TypeId) (x : Operand) (ho : o.op = .load ty x)
    (p : Addr) (hx : a.eval x = .pointer (some p)) (cs : List Value) (hc : ∀ w, C w → ∀ (j : Nat) (v : Value), cs[j]? = some v → w.cell? (p.add j) = some v) (d : TypeDesc)
    (hu : P.underlying ty = some d) (hd : (match d with | .struct _ | .array _ _ => true | _ => false) = true) (hi : (P.info? ty).map (·.size) = some cs.length)
    (h : K (a.put o.dst (.agg cs.toArray))) : o.quiet P a C K :=
  ⟨_, fun w hw => by
    unfold Oper.quietAt execOp
    simp only [ho, hx, Instr.loadAt, Instr.sureAddr, Sem.run_bind, Sem.run_pure, Result.andThen_ok, run_loadVar_agg w ty p cs d (hc w hw) hu hd hi]
    exact ⟨rfl, rfl⟩, h⟩
theorem box_cells {w wr : World} {row : List Value} {t : TypeId} (h : Below (w.heap.size + 1) (w.alloc (.cells row.toArray t)) wr) :
    ∀ (j : Nat) (v : Value), row[j]? = some v → wr.cell? ((⟨w.heap.size, 0, none⟩ : Addr).add j) = some v := by
  intro j v hv
  rw [add_none, h.cell (p := ⟨w.heap.size, 0 + j, none⟩) (by simp), (Blk.new w t _).cell]
  simpa using hv
theorem cells_alloc {wr : World} {row : List Value} {p : Addr} (h : ∀ (j : Nat) (v : Value), row[j]? = some v → wr.cell? (p.add j) = some v) (hp : p.block < wr.heap.size) (o : Obj) :
    ∀ (j : Nat) (v : Value), row[j]? = some v → (wr.alloc o).cell? (p.add j) = some v :=
  fun j v hv => (World.cell?_alloc_lt wr o _ (by rw [block_of_add]; exact hp)).trans (h j v hv)
theorem Past.cells {wr : World} {row : List Value} {p : Addr} (h : ∀ (j : Nat) (v : Value), row[j]? = some v → wr.cell? (p.add j) = some v) (y : Past wr) :
    ∀ (j : Nat) (v : Value), row[j]? = some v → y.1.cell? (p.add j) = some v := fun j v hv => Past.cell (h j v hv) y
theorem Past.cells' {wr : World} {row : List Value} {p : Addr} (h : ∀ (j : Nat) (v : Value), row[j]? = some v → wr.cell? (p.add j) = some v) :
    ∀ w', (∃ y : Past wr, w' = y.1) → ∀ (j : Nat) (v : Value), row[j]? = some v → w'.cell? (p.add j) = some v := by
  rintro _ ⟨y, rfl⟩; exact Past.cells h y
theorem find_stop {α : Type} {p : α → Bool} {xs : List α} {k : Nat} {x : α} (h : (xs.take k).any p = false) (hx : xs[k]? = some x) (hp : p x = true) : xs.findIdx? p = some k := by
  have hk := (List.getElem?_eq_some_iff.1 hx).1
  rw [List.findIdx?_eq_some_iff_getElem]
  refine ⟨hk, by rw [(List.getElem?_eq_some_iff.1 hx).2]; exact hp, fun j hj => ?_⟩
  have : xs[j] ∈ xs.take k := by rw [List.mem_iff_getElem]; exact ⟨j, by simp; omega, by simp⟩
  simpa using List.any_eq_false.1 h _ this
theorem find_end {α : Type} {p : α → Bool} {xs : List α} {n : Nat} (hl : xs.length = n) (h : (xs.take n).any p = false) : xs.findIdx? p = none := by
  rw [List.findIdx?_eq_none_iff]
  intro x hx
  rw [List.take_of_length_le (by omega)] at h
  simpa using List.any_eq_false.1 h x hx
theorem find_get {α : Type} {p : α → Bool} {xs : List α} {k : Nat} (h : xs.findIdx? p = some k) : ∃ x, xs[k]? = some x ∧ p x = true := by
  obtain ⟨hk, h1, _⟩ := List.findIdx?_eq_some_iff_getElem.1 h
  exact ⟨xs[k], List.getElem?_eq_getElem hk, h1⟩
/-- append as a step of a region that draws its order -/
theorem step_append_res {P : Program} {ops : Array Oper} {o : Oper} {a : Act} {w : World} {K : Act → World → Prop} {Q : Exit → Act → World → Prop} {E : Prop} (hg : o.guard = none) (s x : Operand) (t : TypeId)
    (ho : o.op = .call { callee := .builtin .append, args := #[s, x], argTypes := #[t, t] })
    (B : Nat) (e : TypeId) (i : TypeInfo) (z : Value) (sz bytes : Nat) (ht : P.underlying t = some (.slice e)) (hi : P.info? e = some i) (hz : i.zero = some z)
    (hsize : i.size = sz) (hby : i.bytes = bytes) (hzs : z.cells.size = sz) (hsz : 0 < sz) (A : Option Addr) (n cap : Nat) (rows : List (List Value)) (hs : a.eval s = .slice A n cap) (hR : Res B w e sz A n cap rows)
    (Bx : Nat) (X : Option Addr) (m c : Nat) (news : List (List Value)) (hx : a.eval x = .slice X m c) (hx0 : X = none → m = 0) (hX : Rd w Bx X sz news) (hm : news.length = m) (hnl : ∀ r ∈ news, r.length = sz) (h1 : ∀ r ∈ news, ∀ u ∈ r, u.oneCell' = true)
    (h63 : n + m ≤ 281474976710656) (hbytes : (n + m) * bytes ≤ 140737488355328) (hB : B ≤ w.heap.size)
    (h : ∀ A' c' w', Res B w' e sz A' (n + m) c' (rows ++ news) → Below B w w' → K (a.put o.dst (.slice A' (n + m) c')) w') :
    if Region.wanted o (yielded ops a.tmps) = true then Oper.wp P o a w K Q else E := by
  have hw : Region.wanted o (yielded ops a.tmps) = true := by simp [Region.wanted, hg]
  rw [if_pos hw]
  obtain ⟨A', c', w', hrun, h2, h3⟩ := run_append_res (P := P) w B t o.type e i z sz bytes ht hi hz hsize hby hzs hsz A n cap rows hR Bx X m c news hx0 hX hm hnl h1 h63 hbytes hB
  unfold Oper.wp execOp
  simp only [ho, resolve, invoke, builtin, Sem.run_bind, Sem.run_pure, Result.andThen_ok, List.map_toArray, List.map_cons, List.map_nil, hs, hx, hrun]
  exact h A' c' w' h2 h3
theorem Res.alloc {w : World} {B : Nat} {t : TypeId} {sz n cap : Nat} {A : Option Addr} {rows : List (List Value)} (h : Res B w t sz A n cap rows) (o : Obj) : Res B (w.alloc o) t sz A n cap rows :=
  h.past ((Below.refl _ _).alloc (Nat.le_refl _) _)
theorem Res.zero_at {w : World} {B : Nat} {t : TypeId} {sz g : Nat} (hB : B ≤ w.heap.size) (hg : w.heap.size = g) : Res B (w.alloc (.cells #[] t)) t sz (some ⟨g, 0, none⟩) 0 0 [] := by
  subst hg; exact Res.zero w B t sz hB
/-- append onto a slice that has just been made empty: nothing that is there turns -/
theorem run_append_zero {P : Program} (w : World) (g : Nat) (B : Nat) (t ty e : TypeId) (i : TypeInfo) (z : Value) (sz bytes : Nat) (ht : P.underlying t = some (.slice e)) (hi : P.info? e = some i) (hz : i.zero = some z)
    (hsize : i.size = sz) (hby : i.bytes = bytes) (hzs : z.cells.size = sz) (hsz : 0 < sz) (hR : Res B w e sz (some ⟨g, 0, none⟩) 0 0 [])
    (Bx : Nat) (X : Option Addr) (m c : Nat) (news : List (List Value)) (hx0 : X = none → m = 0) (hX : Rd w Bx X sz news) (hm : news.length = m) (hnl : ∀ r ∈ news, r.length = sz) (h1 : ∀ r ∈ news, ∀ u ∈ r, u.oneCell' = true)
    (h63 : m ≤ 281474976710656) (hbytes : m * bytes ≤ 140737488355328) (hB : B ≤ w.heap.size) :
    ∃ A' c' w', (Builtin.append_ #[t, t] ty #[.slice (some ⟨g, 0, none⟩) 0 0, .slice X m c]).run P w = .ok (.slice A' m c') w' ∧ Res B w' e sz A' m c' news ∧ Below B w w' ∧ w.grownBy w' (some g) := by
  rcases X with _ | ad
  · have hm0 := hx0 rfl
    subst hm0
    have hn : news = [] := List.eq_nil_of_length_eq_zero hm
    subst hn
    exact ⟨_, 0, w, run_append_of_nil w B t ty e i sz ht hi _ 0 _ hR.own c, hR, Below.refl _ _, World.grownBy.refl w _⟩
  · have hfl : (news.flatten).length = m * sz := by rw [flat_length hnl, hm]
    have hcells : ∀ (j : Nat) (u : Value), news.flatten[j]? = some u → w.cell? (ad.add j) = some u := by
      intro j u hu
      have hj : j < m * sz := by have := (List.getElem?_eq_some_iff.1 hu).1; omega
      have hk : j / sz < news.length := by rw [hm]; exact (Nat.div_lt_iff_lt_mul hsz).2 hj
      obtain ⟨r, hr⟩ := get_of_lt hk
      have hjm : j % sz < sz := Nat.mod_lt _ hsz
      have e1 : j = j / sz * sz + j % sz := by have := Nat.div_add_mod j sz; rw [Nat.mul_comm] at this; omega
      have e2 := flat_get hnl hr hjm
      rw [← e1, hu] at e2
      obtain ⟨ad', he, _, _, hc⟩ := hX.at_ hr
      injection he with he; subst he
      have := hc (j % sz) u e2.symm
      rwa [← e1] at this
    obtain ⟨v', w', hrun, h2, h3, _, _⟩ := run_append_own_at (P := P) w B t ty e i z sz bytes ht hi hz hsize hby hzs hsz (.slice (some ⟨g, 0, none⟩) 0 0) 0 [] (by simpa using hR.own) ad m c news.flatten hfl hcells
      (fun u hu => by obtain ⟨r, hr, hu⟩ := List.mem_flatten.1 hu; exact h1 r hr u hu) (by unfold maxLen; omega) (by rw [Nat.zero_add]; exact hbytes) hB
    obtain ⟨A', c', rfl⟩ := own_form w' h2
    have h3' : w.grownBy w' (some g) := by simpa [Value.ownBlock] using h3
    refine ⟨A', c', w', by simpa using hrun, ⟨by simpa using h2, hm, hnl⟩, (Below.refl _ _).grown h3' hB fun k hk => ?_, h3'⟩
    injection hk with hk
    subst hk
    exact (hR.lt rfl).1
theorem step_append_zero {P : Program} {ops : Array Oper} {o : Oper} {a : Act} {w : World} {K : Act → World → Prop} {Q : Exit → Act → World → Prop} {E : Prop} (hg : o.guard = none) (s x : Operand) (t : TypeId)
    (ho : o.op = .call { callee := .builtin .append, args := #[s, x], argTypes := #[t, t] })
    (g : Nat) (B : Nat) (e : TypeId) (i : TypeInfo) (z : Value) (sz bytes : Nat) (ht : P.underlying t = some (.slice e)) (hi : P.info? e = some i) (hz : i.zero = some z)
    (hsize : i.size = sz) (hby : i.bytes = bytes) (hzs : z.cells.size = sz) (hsz : 0 < sz) (hs : a.eval s = .slice (some ⟨g, 0, none⟩) 0 0) (hR : Res B w e sz (some ⟨g, 0, none⟩) 0 0 [])
    (Bx : Nat) (X : Option Addr) (m c : Nat) (news : List (List Value)) (hx : a.eval x = .slice X m c) (hx0 : X = none → m = 0) (hX : Rd w Bx X sz news) (hm : news.length = m) (hnl : ∀ r ∈ news, r.length = sz) (h1 : ∀ r ∈ news, ∀ u ∈ r, u.oneCell' = true)
    (h63 : m ≤ 281474976710656) (hbytes : m * bytes ≤ 140737488355328) (hB : B ≤ w.heap.size)
    (h : ∀ A' c' w', Res B w' e sz A' m c' news → Below B w w' → w.grownBy w' (some g) → K (a.put o.dst (.slice A' m c')) w') :
    if Region.wanted o (yielded ops a.tmps) = true then Oper.wp P o a w K Q else E := by
  have hw : Region.wanted o (yielded ops a.tmps) = true := by simp [Region.wanted, hg]
  rw [if_pos hw]
  obtain ⟨A', c', w', hrun, h2, h3, h4⟩ := run_append_zero (P := P) w g B t o.type e i z sz bytes ht hi hz hsize hby hzs hsz hR Bx X m c news hx0 hX hm hnl h1 h63 hbytes hB
  unfold Oper.wp execOp
  simp only [ho, resolve, invoke, builtin, Sem.run_bind, Sem.run_pure, Result.andThen_ok, List.map_toArray, List.map_cons, List.map_nil, hs, hx, hrun]
  exact h A' c' w' h2 h3 h4
/-- a row made ahead of the append lies where it lay -/
theorem Rd.row_kept {w w' : World} {g b : Nat} {r : List Value} (hc : ∀ (j : Nat) (v : Value), r[j]? = some v → w.cell? ⟨b, j, none⟩ = some v) (hl : b < w.heap.size) (hg : w.grownBy w' (some g)) (hne : b ≠ g) :
    Rd w' w'.heap.size (some ⟨b, 0, none⟩) r.length [r] := by
  have hR : Rd w w.heap.size (some ⟨b, 0, none⟩) r.length [r] := by
    refine .inr ⟨_, rfl, hl, fun q r' hr => ?_⟩
    have hq : q = 0 := by have := (List.getElem?_eq_some_iff.1 hr).1; simp at this; exact this
    subst hq
    simp only [List.getElem?_cons_zero, Option.some.injEq] at hr
    subst hr
    refine ⟨rfl, fun j v hv => ?_⟩
    rw [add_none]
    have := hc j v hv
    simpa using this
  exact (hR.grown (Nat.le_refl _) hg (fun ad he _ => by injection he with he; subst he; exact hne)).more hg.size
end Go.Proofs.YtbjdbpdgacfcpaaGreat
end

/- One cell of a slice of the call's own is written. No condition. -/
section
namespace Go.Proofs.YtbjdbpdgacfcpaaGreat
open Go.RowKit Go.BigFrame
theorem flatten_set {sz : Nat} {v : Value} : ∀ {rows : List (List Value)} {k j : Nat} {r : List Value}, (∀ r ∈ rows, r.length = sz) → rows[k]? = some r → j < sz → (rows.set k (r.set j v)).flatten = rows.flatten.set (k * sz + j) v
  | [], k, j, r, _, hr, _ => by simp at hr
  | a :: rows, 0, j, r, hall, hr, hj => by
    simp only [List.getElem?_cons_zero, Option.some.injEq] at hr
    subst hr
    have hl := hall a (by simp)
    rw [List.set_cons_zero, List.flatten_cons, List.flatten_cons, Nat.zero_mul, Nat.zero_add, List.set_append_left _ _ (by omega)]
  | a :: rows, k + 1, j, r, hall, hr, hj => by
    have hl := hall a (by simp)
    have ih := flatten_set (v := v) (rows := rows) (k := k) (j := j) (r := r) (fun x hx => hall x (by simp [hx])) (by simpa using hr) hj
    have e : (k + 1) * sz + j = sz + (k * sz + j) := by rw [Nat.add_mul]; omega
    rw [List.set_cons_succ, List.flatten_cons, List.flatten_cons, ih, List.set_append_right _ _ (by omega), e, hl, Nat.add_sub_cancel_left]
section
variable {w : World} {B sz n cap : Nat} {t : TypeId} {A : Option Addr} {rows : List (List Value)}
theorem Res.put (h : Res B w t sz A n cap rows) {k j : Nat} {r : List Value} (hr : rows[k]? = some r) (hj : j < sz) :
    ∃ g, A = some ⟨g, 0, none⟩ ∧ B ≤ g ∧ g < w.heap.size ∧ (∀ u, r[j]? = some u → w.cell? ⟨g, k * sz + j, none⟩ = some u) ∧ w.frozen? ⟨g, k * sz + j, none⟩ = false ∧
      ∀ v, Res B (w.setCell ⟨g, k * sz + j, none⟩ v) t sz A n cap (rows.set k (r.set j v)) := by
  have hk := (List.getElem?_eq_some_iff.1 hr).1
  have hn := h.len
  rcases h.own.2 with ⟨_, h0⟩ | ⟨g, cap', cur, e, hb, hh, hnc, hcm, hs, ht⟩
  · omega
  · have hblk : Blk w g t cur := hh
    have hl := h.all r (List.mem_of_getElem? hr)
    have hflat := flat_length h.all
    refine ⟨g, (by injection e), hb, hblk.lt, fun u hu => ?_, hblk.frozen _, fun v => ?_⟩
    · obtain ⟨ad, e2, _, _, hc⟩ := h.rd.at_ hr
      injection e with e1 e3 e4
      rw [e1] at e2
      injection e2 with e2; subst e2
      have := hc j u hu
      rwa [add_none, Nat.zero_add] at this
    · have hset := hblk.set_ (k * sz + j) v
      have hall : ∀ x ∈ rows.set k (r.set j v), x.length = sz := fun x hx => by
        rcases List.mem_or_eq_of_mem_set hx with h' | h'
        · exact h.all x h'
        · rw [h', List.length_set]; exact hl
      refine ⟨⟨by rw [flat_length hall, List.length_set, hn], .inr ⟨g, cap', _, e, hb, hset, hnc, hcm, by simpa using hs, ?_⟩⟩, by simpa using hn, hall⟩
      rw [flatten_set h.all hr hj, ← ht]
      simp [List.take_set]
end
theorem intRows_set (xs : List Int) (k : Nat) (v : Int) : intRows (xs.set k v) = (intRows xs).set k [Value.int .i64 v] := by
  simp [intRows, List.map_set]
theorem Res.putInt {w : World} {B n cap : Nat} {t : TypeId} {A : Option Addr} {xs : List Int} (h : Res B w t 1 A n cap (intRows xs)) {k : Nat} {x : Int} (hx : xs[k]? = some x) :
    ∃ g, A = some ⟨g, 0, none⟩ ∧ B ≤ g ∧ g < w.heap.size ∧ w.cell? ⟨g, k, none⟩ = some (.int .i64 x) ∧ w.frozen? ⟨g, k, none⟩ = false ∧ ∀ v : Int, Res B (w.setCell ⟨g, k, none⟩ (.int .i64 v)) t 1 A n cap (intRows (xs.set k v)) := by
  obtain ⟨g, h1, h2, h3, h4, h5, h6⟩ := h.put (k := k) (j := 0) (intRows_get hx) (by omega)
  rw [Nat.mul_one, Nat.add_zero] at h4 h5 h6
  refine ⟨g, h1, h2, h3, h4 _ rfl, h5, fun v => ?_⟩
  rw [intRows_set]
  exact h6 (.int .i64 v)
end Go.Proofs.YtbjdbpdgacfcpaaGreat
end

/- Appending one row: which block turns, and where the longer slice lies. No condition. -/
section
namespace Go.Proofs.YtbjdbpdgacfcpaaGreat
open Go.RowKit Go.BigFrame
/-- the block of a slice -/
def blkOf (A : Option Addr) : Option Nat := A.map (·.block)
theorem blkOf_own (A : Option Addr) (n c : Nat) : (Value.slice A n c).ownBlock = blkOf A := by cases A <;> rfl
/-- all blocks but the slice's own lie as they lay -/
def KeptBut (w w' : World) (A : Option Addr) : Prop := ∀ k, k < w.heap.size → some k ≠ blkOf A → w'.heap[k]? = w.heap[k]?
theorem Blk.kept {w w' : World} {g : Nat} {t : TypeId} {cs : Array Value} {A : Option Addr} (h : Blk w g t cs) (hk : KeptBut w w' A) (hne : some g ≠ blkOf A) : Blk w' g t cs := (hk g h.lt hne).trans h
theorem Rd.kept {w w' : World} {B sz : Nat} {A X : Option Addr} {rows : List (List Value)} (h : Rd w B X sz rows) (hk : KeptBut w w' A) (hB : B ≤ w.heap.size) (hne : ∀ k, blkOf A = some k → B ≤ k) : Rd w' B X sz rows :=
  h.keep fun p hp => World.cell?_of_block (hk p.block (by omega) (fun e => by have := hne p.block e.symm; omega))
theorem Rd.keptX {w w' : World} {B sz : Nat} {A X : Option Addr} {rows : List (List Value)} (h : Rd w B X sz rows) (hk : KeptBut w w' A) (hB : B ≤ w.heap.size) (hne : ∀ ad, X = some ad → some ad.block ≠ blkOf A) : Rd w' B X sz rows := by
  rcases h with h | ⟨ad, e, hb, hc⟩
  · exact .inl h
  · exact .inr ⟨ad, e, hb, fun k r hr => ⟨(hc k r hr).1, fun j v hv => (World.cell?_of_block (w := w) (hk (ad.add (k * sz + j)).block (by rw [block_of_add]; omega) (by rw [block_of_add]; exact hne ad e))).trans ((hc k r hr).2 j v hv)⟩⟩
theorem Res.keptBut {w w' : World} {B : Nat} {t : TypeId} {sz n cap : Nat} {A X : Option Addr} {rows : List (List Value)} (h : Res B w t sz X n cap rows) (hk : KeptBut w w' A) (hne : ∀ g, X = some ⟨g, 0, none⟩ → some g ≠ blkOf A) : Res B w' t sz X n cap rows :=
  h.keep fun g hg => hk g (h.lt hg).2 (hne g hg)
theorem wpList_append_row_at {P : Program} (w : World) {ops : Array Oper} {rest : List Oper} {o : Oper} {a : Act} {Q : Exit → Act → World → Prop} (hgd : o.guard = none) (s x : Operand) (t : TypeId)
    (ho : o.op = .call { callee := .builtin .append, args := #[s, x], argTypes := #[t, t] })
    (B : Nat) (e : TypeId) (i : TypeInfo) (z : Value) (sz bytes : Nat) (ht : P.underlying t = some (.slice e)) (hi : P.info? e = some i) (hz : i.zero = some z)
    (hsize : i.size = sz) (hby : i.bytes = bytes) (hzs : z.cells.size = sz) (hsz : 0 < sz) (hbb : bytes ≤ 4096) (A : Option Addr) (n cap : Nat) (rows : List (List Value)) (hs : a.eval s = .slice A n cap) (hR : Res B w e sz A n cap rows)
    (r : List Value) (c : Nat) (hx : a.eval x = .slice (some ⟨w.heap.size, 0, none⟩) 1 c) (hl : r.length = sz) (h1 : ∀ u ∈ r, u.oneCell' = true) (hn : n ≤ 4194304) (hB : B ≤ w.heap.size)
    (h : ∀ A' c' w', Res B w' e sz A' (n + 1) c' (rows ++ [r]) → Below B w w' → KeptBut w w' A → (blkOf A' = blkOf A ∨ blkOf A' = some (w.heap.size + 1)) → wpList P ops Q rest (a.put o.dst (.slice A' (n + 1) c')) w') : wpList P ops Q (o :: rest) a (w.alloc (.cells r.toArray e)) := by
  have hb : Below w.heap.size w (w.alloc (.cells r.toArray e)) := (Below.refl _ _).alloc (Nat.le_refl _) _
  have hR2 := hR.past hb
  have hm : (n + 1) * bytes ≤ 4194305 * 4096 := Nat.mul_le_mul (by omega) hbb
  refine wpList_plain hgd fun K hK => ?_
  obtain ⟨v', w', hrun, h2, h3, _, h5⟩ := run_append_own_at (P := P) (w.alloc (.cells r.toArray e)) B t o.type e i z sz bytes ht hi hz hsize hby hzs hsz (.slice A n cap) n rows.flatten hR2.own ⟨w.heap.size, 0, none⟩ 1 c r (by omega)
    (fun j u hu => by rw [add_none, (Blk.new w e _).cell]; simpa using hu) h1 (by unfold maxLen; omega) (by omega) (by simp; omega)
  obtain ⟨A', c', rfl⟩ := own_form w' h2
  have hkb : KeptBut w w' A := fun k hk hne => (h3.block k (by simp; omega) (by rw [blkOf_own]; exact hne)).trans (Below.heap_alloc w _ k hk)
  have hbe : Below B w w' := (hb.mono hB).trans ((Below.refl _ _).grown h3 (by simp; omega) fun k hk => (hR2.own.lt k hk).1)
  unfold Oper.wp execOp
  simp only [ho, resolve, invoke, builtin, Sem.run_bind, Sem.run_pure, Result.andThen_ok, List.map_toArray, List.map_cons, List.map_nil, hs, hx, hrun]
  refine hK _ _ (h A' c' w' ⟨by simpa using h2, by simp [hR.len], fun r' hr' => ?_⟩ hbe hkb ?_)
  · rcases List.mem_append.1 hr' with h' | h'
    · exact hR.all r' h'
    · simp only [List.mem_singleton] at h'; rw [h']; exact hl
  · rw [blkOf_own, blkOf_own] at h5; simpa using h5
end Go.Proofs.YtbjdbpdgacfcpaaGreat
end

/- A region that draws its order, whose first operations read (their calls may make memory) and whose last ones, in one forced order, write: one walk in the order of the text. No condition. -/
section
namespace Go.Proofs.YtbjdbpdgacfcpaaGreat
open Go.RowKit Go.BigFrame
section
variable {P : Program} {ops : Array Oper} {md : Region.Mode} {C : World → Prop} {n : Nat}

/-- f operations of the head are still to come, in whatever order; behind them L -/
def HeadQ (P : Program) (md : Region.Mode) (ops : Array Oper) (C : World → Prop) (n : Nat) (L : Array Bool → Act → Prop) : Nat → Array Bool → Act → Prop
  | 0, listed, a => L listed a
  | f + 1, listed, a => Region.ready md ops listed ≠ [] ∧ ∀ i ∈ Region.ready md ops listed, i < n ∧ qOp P ops C i (HeadQ P md ops C n L f (listed.setIfInBounds i true)) a

theorem HeadQ.any {g : Nat} {L : Array Bool → Act → Prop} {Q' : Exit → Act → World → Prop} (hL : ∀ listed a w, C w → L listed a → wpAny P md ops Q' g listed a w) :
    ∀ (f : Nat) (listed : Array Bool) (a : Act) (w : World), C w → HeadQ P md ops C n L f listed a → wpAny P md ops Q' (f + g) listed a w
  | 0, _, _, _, hw, h => by rw [Nat.zero_add]; exact hL _ _ _ hw h
  | f + 1, _, _, _, hw, h => by
    rw [show f + 1 + g = (f + g) + 1 by omega]
    exact ⟨fun h0 => absurd h0 h.1, fun i hi => wpOp_of_qOp hw (fun a' w' hw' h' => HeadQ.any hL f _ a' w' hw' h') (h.2 i hi).2⟩

theorem HeadQ.first {i : Nat} {oi : Oper} {v : Value} {L : Array Bool → Act → Prop} (hi : ops[i]? = some oi) (hsel : ∀ (j : Nat) (o : Oper) cs b, ops[j]? = some o → o.op ≠ .select cs b)
    (hs : Region.sinkB md ops n = true) (hc : Region.chainB md ops n = true) (hn : n < ops.size) (hin : i < n) (hdone : ∀ listed a, L listed a → ∀ j ∈ Region.ready md ops listed, n ≤ j) :
    ∀ (f : Nat) (listed : Array Bool) (a : Act), HeadInv md ops n listed →
      (∀ j oj, ops[j]? = some oj → j ≠ i → listed.getD j true = false → (∀ e ∈ oj.after, Region.binds md e = true → e.on ≠ i) → oi.apart ops oj = true) →
      i ∈ Region.ready md ops listed → YieldsIn P ops C oi v a → HeadQ P md ops C n L f (listed.setIfInBounds i true) (a.put oi.dst v) → HeadQ P md ops C n L (f + 1) listed a := by
  intro f
  induction f with
  | zero =>
    intro listed a inv _ hr hy H
    refine ⟨fun h => (by rw [h] at hr; cases hr), fun j hj => ?_⟩
    have hjn : j < n := Nat.lt_of_not_le fun h => tail_waits hs hc hn inv _ i rfl hin (mem_ready.1 hr).1 j h hj
    refine ⟨hjn, ?_⟩
    by_cases hji : j = i
    · subst hji; exact hy.qOp hi H
    · exact absurd (hdone _ _ H j (ready_mono hj hji)) (by omega)
  | succ f ih =>
    intro listed a inv hfree hr hy H
    refine ⟨fun h => (by rw [h] at hr; cases hr), fun j hj => ?_⟩
    have hun := (mem_ready.1 hr).1
    have hjn : j < n := Nat.lt_of_not_le fun h => tail_waits hs hc hn inv _ i rfl hin hun j h hj
    refine ⟨hjn, ?_⟩
    by_cases hji : j = i
    · subst hji; exact hy.qOp hi H
    obtain ⟨hjun, oj, hoj, hall⟩ := mem_ready.1 hj
    have hnot : ∀ e ∈ oj.after, Region.binds md e = true → e.on ≠ i := fun e he hb heq => by
      have h1 := hall e he hb
      rw [heq, getD_both hun] at h1
      cases h1
    have h2 := qOp_put hoj (hfree j oj hoj hji hjun hnot) (fun cs b => hsel i oi cs b hi) (fun cs b => hsel j oj cs b hoj) hy (H.2 j (ready_mono hj hji)).2
    refine qOp_mono (fun a' h3 => ih (listed.setIfInBounds j true) a' (inv.set hj hjn) (fun k ok hk hki hku hno => hfree k ok hk hki ?_ hno) (ready_mono hr (Ne.symm hji)) h3.1 ?_) h2
    · by_cases hjk : j = k
      · subst hjk; exact hjun
      · rwa [getD_set_ne true hjk] at hku
    · rw [Array.setIfInBounds_comm _ _ hji]; exact h3.2

theorem HeadQ.lex {g : Nat} {Lq : Act → Prop} (hsel : Region.noSelect ops = true) (hs : Region.sinkB md ops n = true) (hc : Region.chainB md ops n = true) (hn : n < ops.size) :
    ∀ (l : List Oper) (k : Nat) (listed : Array Bool) (a : Act), (∀ j, j < l.length → l[j]? = ops[k + j]?) → k + l.length = n → HeadInv md ops n listed →
    Region.lexHead md ops g l.length k listed = true → wpQuiet P ops C Lq l a → HeadQ P md ops C n (fun listed' a' => Region.seqB md ops g n listed' = true ∧ Lq a') l.length listed a
  | [], k, listed, a, _, hk, _, hB, h => by
    obtain rfl : k = n := by simpa using hk
    exact ⟨by simpa [Region.lexHead] using hB, h⟩
  | o :: l, k, listed, a, hl, hk, inv, hB, h => by
    have h0 : ops[k]? = some o := by simpa using (hl 0 (by simp)).symm
    simp only [List.length_cons, Region.lexHead, Bool.and_eq_true] at hB
    have hkn : k < n := by simp only [List.length_cons] at hk; omega
    have hr' : k ∈ Region.ready md ops listed := by simpa using hB.1.1
    obtain ⟨v, hy, hK⟩ := yieldsIn_of_qOp (C := C) h0 (show qOp P ops C k (wpQuiet P ops C Lq l) a by unfold qOp; simp only [h0]; exact h)
    exact HeadQ.first h0 (Region.noSelect_spec hsel) hs hc hn hkn (fun _ _ hL => seqB_ready hL.1) l.length listed a inv (Region.free_spec h0 hB.1.2) hr' hy
      (HeadQ.lex hsel hs hc hn l (k + 1) _ _ (fun j hj => by have := hl (j + 1) (by simp; omega); simpa [Nat.add_assoc, Nat.add_comm 1 j] using this) (by simp only [List.length_cons] at hk; omega) (inv.set hr' hkn) hB.2 hK)

theorem wp_region_quiet_tail {id : Nat} {Q : Exit → Act → World → Prop} {a : Act} {w : World} {l : List Oper} (n : Nat) (hm : P.follows .mixedOrders = true) (hB : Region.lexTailB .any l.toArray n = true) (hC : C w.drew)
    (h : wpQuiet P l.toArray C (fun a' => ∀ w', C w' → wpList P l.toArray Q (l.drop n) a' w') (l.take n) a) : (Code.region id l.toArray true).wp P Q a w := by
  simp only [Region.lexTailB, Bool.and_eq_true, decide_eq_true_eq] at hB
  obtain ⟨⟨⟨⟨hsel, hn⟩, hs⟩, hc⟩, hlex⟩ := hB
  have hn' : n < l.length := by simpa using hn
  have htl : (l.take n).length = n := by simp; omega
  have hdl : (l.drop n).length = l.toArray.size - n := by simp
  have inv0 : HeadInv .any l.toArray n (Array.replicate l.toArray.size false) :=
    ⟨by simp, fun j oj _ hl => (by rw [getD_replicate_false] at hl; cases hl), fun t _ ht => getD_in (by simpa using ht) (getD_replicate_false _ _)⟩
  have H := HeadQ.lex (md := .any) (g := l.toArray.size - n) hsel hs hc hn (l.take n) 0 _ a (fun j hj => by rw [htl] at hj; simp [hj]) (by simpa using htl) inv0 (by rw [htl]; exact hlex) h
  refine wp_region_any hm ?_
  have := HeadQ.any (Q' := Q) (g := l.toArray.size - n) (fun listed a' w' hw' hL => by
    have := wpAny_of_seq (md := .any) (Q' := Q) (l.drop n) n listed a' w' (fun j => by simp [List.getElem?_drop]) (by rw [hdl]; exact hL.1) (hL.2 w' hw')
    rwa [hdl] at this) _ _ _ _ hC H
  rw [htl, show n + (l.toArray.size - n) = l.toArray.size by omega] at this
  exact this
theorem wp_region_past_tail {id : Nat} {Q : Exit → Act → World → Prop} {a : Act} {w : World} {l : List Oper} (n : Nat) (hm : P.follows .mixedOrders = true) (hB : Region.lexTailB .any l.toArray n = true)
    (h : wpQuiet P l.toArray (fun w' => ∃ x : Past w, w' = x.1) (fun a' => ∀ w', (∃ x : Past w, w' = x.1) → wpList P l.toArray Q (l.drop n) a' w') (l.take n) a) : (Code.region id l.toArray true).wp P Q a w :=
  wp_region_quiet_tail (C := fun w' => ∃ x : Past w, w' = x.1) n hm hB ⟨⟨w.drew, (Below.refl _ _).drew⟩, rfl⟩ h
end
end Go.Proofs.YtbjdbpdgacfcpaaGreat
end

/- Appending one row as a step of a region that draws its order: which block turns, and where the longer slice lies. No condition. -/
section
namespace Go.Proofs.YtbjdbpdgacfcpaaGreat
open Go.RowKit Go.BigFrame
/-- the row lies whole in a block of its own -/
theorem step_append_row_at {P : Program} {ops : Array Oper} {o : Oper} {a : Act} {w : World} {K : Act → World → Prop} {Q : Exit → Act → World → Prop} {E : Prop} (hg : o.guard = none) (s x : Operand) (t : TypeId)
    (ho : o.op = .call { callee := .builtin .append, args := #[s, x], argTypes := #[t, t] })
    (B : Nat) (e : TypeId) (i : TypeInfo) (z : Value) (sz bytes : Nat) (ht : P.underlying t = some (.slice e)) (hi : P.info? e = some i) (hz : i.zero = some z)
    (hsize : i.size = sz) (hby : i.bytes = bytes) (hzs : z.cells.size = sz) (hsz : 0 < sz) (hbb : bytes ≤ 4096) (A : Option Addr) (n cap : Nat) (rows : List (List Value)) (hs : a.eval s = .slice A n cap) (hR : Res B w e sz A n cap rows)
    (r : List Value) (g c tg : Nat) (hx : a.eval x = .slice (some ⟨g, 0, none⟩) 1 c) (hG : Blk w g tg r.toArray) (hl : r.length = sz) (h1 : ∀ u ∈ r, u.oneCell' = true) (hn : n ≤ 4194304) (hB : B ≤ w.heap.size)
    (h : ∀ A' c' w', Res B w' e sz A' (n + 1) c' (rows ++ [r]) → Below B w w' → KeptBut w w' A → (blkOf A' = blkOf A ∨ blkOf A' = some w.heap.size) → K (a.put o.dst (.slice A' (n + 1) c')) w') :
    if Region.wanted o (yielded ops a.tmps) = true then Oper.wp P o a w K Q else E := by
  have hw : Region.wanted o (yielded ops a.tmps) = true := by simp [Region.wanted, hg]
  rw [if_pos hw]
  have hm : (n + 1) * bytes ≤ 4194305 * 4096 := Nat.mul_le_mul (by omega) hbb
  obtain ⟨v', w', hrun, h2, h3, _, h5⟩ := run_append_own_at (P := P) w B t o.type e i z sz bytes ht hi hz hsize hby hzs hsz (.slice A n cap) n rows.flatten hR.own ⟨g, 0, none⟩ 1 c r (by omega)
    (fun j u hu => by rw [add_none, hG.cell]; simpa using hu) h1 (by unfold maxLen; omega) (by omega) hB
  obtain ⟨A', c', rfl⟩ := own_form w' h2
  have hkb : KeptBut w w' A := fun k hk hne => h3.block k hk (by rw [blkOf_own]; exact hne)
  have hbe : Below B w w' := (Below.refl _ _).grown h3 hB fun k hk => (hR.own.lt k hk).1
  unfold Oper.wp execOp
  simp only [ho, resolve, invoke, builtin, Sem.run_bind, Sem.run_pure, Result.andThen_ok, List.map_toArray, List.map_cons, List.map_nil, hs, hx, hrun]
  refine h A' c' w' ⟨by simpa using h2, by simp [hR.len], fun r' hr' => ?_⟩ hbe hkb ?_
  · rcases List.mem_append.1 hr' with h' | h'
    · exact hR.all r' h'
    · simp only [List.mem_singleton] at h'; rw [h']; exact hl
  · rw [blkOf_own, blkOf_own] at h5; exact h5
end Go.Proofs.YtbjdbpdgacfcpaaGreat
end
