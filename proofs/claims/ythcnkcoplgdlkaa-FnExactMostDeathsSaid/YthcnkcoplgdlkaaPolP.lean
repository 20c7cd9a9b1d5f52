/- Policies, their premiums and reserves: plain functions and their laws. No program. -/
import Derived.Test.YthcnkcoplgdlkaaLifeP
import Derived.Test.YthcnkcoplgdlkaaStHolding
namespace Go.Proofs.Ythcnkcoplgdlkaa
open Go.RowKit Go.BigFrame

structure Bas where
  first : Int
  lives : List Int
  rate : Int
def basisB (b : Bas) : Bool := tableB b.first b.lives && inR b.rate 0 200
def Bas.ix (b : Bas) (age : Int) : Nat := (age - b.first).toNat
def Bas.d (b : Bas) (age : Int) : Int := dC b.lives b.rate (b.ix age)
def Bas.top (b : Bas) (kind age n : Int) : Int := topF b.lives b.rate kind (b.ix age) n.toNat
def Bas.base (b : Bas) (kind age n : Int) : Int := baseF b.lives b.rate kind (b.ix age) n.toNat
def Bas.last (b : Bas) : Int := b.first + (b.lives.length : Int) - 1
/-- the arguments of an assurance, but for the table -/
def assurB (b : Bas) (kind age n sum : Int) : Bool :=
  inR kind 0 3 && (inR b.rate 0 200 && (inR age b.first 150 && (inR sum 1 100000000 && (inR n 0 120 && (decide (age + n ≤ 150) && (decide (n = 0) == decide (kind = 0)))))))
def bandB (b : Bas) (age n : Int) : Bool := (List.range (max 1 n).toNat).all fun i => decide (b.d (age + i) ≠ 0)
def polB (b : Bas) (p : Policy) : Bool := basisB b && (assurB b p.kind p.age p.years p.sum && (inR p.load 0 1000 && bandB b p.age p.years))
def durP (b : Bas) (p : Policy) : Int := if p.kind = 0 then b.last - p.age else p.years
def resCode (b : Bas) (p : Policy) (k : Int) : Int := if polB b p = true then (if inR k 0 (durP b p - 1) = true then (if b.d (p.age + k) = 0 then 5 else 0) else 2) else 1
/-- a * b / c rounded up -/
def upP (a b c : Int) : Int := a * b / c + (if 0 < a * b % c then 1 else 0)
def netP (b : Bas) (p : Policy) : Int := upP p.sum (b.top p.kind p.age p.years) (b.base p.kind p.age p.years)
def officeP (b : Bas) (p : Policy) : Int := netP b p + ceilDiv (netP b p * p.load) 1000
def leftP (p : Policy) (k : Int) : Int := if p.kind = 0 then 0 else p.years - k
def fwdP (s t n v d : Int) : Int × Int := ((s * t - n * v) / d, (s * t - n * v) % d)
def roundP (x : Int × Int) : Int := max 0 (x.1 + (if 0 < x.2 then 1 else 0))
def partT (b : Bas) (p : Policy) (k : Int) : Int := b.top p.kind (p.age + k) (leftP p k)
def partB (b : Bas) (p : Policy) (k : Int) : Int := b.base p.kind (p.age + k) (leftP p k)
def partD (b : Bas) (p : Policy) (k : Int) : Int := b.d (p.age + k)
def resAt (b : Bas) (p : Policy) (k : Int) : Int := roundP (fwdP p.sum (partT b p k) (netP b p) (partB b p k) (partD b p k))

structure BasOk (b : Bas) : Prop where
  tab : TabOk b.first b.lives
  rate0 : 0 ≤ b.rate
  rate1 : b.rate ≤ 200
theorem basis_ok {b : Bas} (h : basisB b = true) : BasOk b := by
  simp only [basisB, Bool.and_eq_true, inR_true] at h
  exact ⟨table_ok h.1, h.2.1, h.2.2⟩
structure PolOk (b : Bas) (p : Policy) : Prop extends BasOk b where
  kind0 : 0 ≤ p.kind
  kind1 : p.kind ≤ 3
  age0 : b.first ≤ p.age
  age1 : p.age ≤ 150
  sum0 : 1 ≤ p.sum
  sum1 : p.sum ≤ 100000000
  yrs0 : 0 ≤ p.years
  yrs1 : p.years ≤ 120
  end1 : p.age + p.years ≤ 150
  zero : p.years = 0 ↔ p.kind = 0
  load0 : 0 ≤ p.load
  load1 : p.load ≤ 1000
  band : ∀ i : Nat, (i : Int) < max 1 p.years → b.d (p.age + i) ≠ 0
theorem pol_ok {b : Bas} {p : Policy} (h : polB b p = true) : PolOk b p := by
  simp only [polB, assurB, bandB, Bool.and_eq_true, inR_true, decide_eq_true_eq, List.all_eq_true, List.mem_range, beq_iff_eq, decide_eq_decide] at h
  obtain ⟨h1, ⟨⟨k0, k1⟩, _, ⟨a0, a1⟩, ⟨s0, s1⟩, ⟨y0, y1⟩, e1, z⟩, ⟨l0, l1⟩, hb⟩ := h
  exact { toBasOk := basis_ok h1, kind0 := k0, kind1 := k1, age0 := a0, age1 := a1, sum0 := s0, sum1 := s1, yrs0 := y0, yrs1 := y1, end1 := e1, zero := z, load0 := l0, load1 := l1, band := fun i hi => hb i (by omega) }
section
variable {b : Bas} (B : BasOk b)
include B
theorem d_bound (age : Int) : 0 ≤ b.d age ∧ b.d age ≤ 1000000000000000 := dC_bound B.tab B.rate0 _
theorem top_bound (kind age n : Int) : 0 ≤ b.top kind age n ∧ b.top kind age n ≤ b.d age := topF_bound B.tab B.rate0 _ _ _
theorem base_bound (kind age n : Int) (hn : n ≤ 120) : 0 ≤ b.base kind age n ∧ b.base kind age n ≤ 120 * b.d age := baseF_bound B.tab B.rate0 _ _ _ (by omega)
theorem base_pos (kind age n : Int) (h : kind = 0 ∨ 1 ≤ n) : b.d age ≤ b.base kind age n := baseF_pos B.tab B.rate0 _ _ _ (by rcases h with h | h; exact .inl h; exact .inr (by omega))
end
theorem mul_div_le {a x c m : Int} (ha : 0 ≤ a) (hx : 0 ≤ x) (hc : 1 ≤ c) (h : x ≤ m * c) : 0 ≤ a * x / c ∧ a * x / c ≤ a * m := by
  refine ⟨Int.ediv_nonneg (Int.mul_nonneg ha hx) (by omega), ?_⟩
  have h1 : a * x ≤ a * (m * c) := Int.mul_le_mul_of_nonneg_left h ha
  have h2 : a * x / c ≤ a * (m * c) / c := Int.ediv_le_ediv (by omega) h1
  rw [← Int.mul_assoc, Int.mul_ediv_cancel _ (by omega)] at h2
  exact h2
theorem up_le {a x c : Int} (ha : 0 ≤ a) (hx : 0 ≤ x) (hc : 1 ≤ c) (h : x ≤ c) : 0 ≤ upP a x c ∧ upP a x c ≤ a := by
  have h1 := mul_div_le (m := 1) ha hx hc (by omega)
  rw [Int.mul_one] at h1
  unfold upP
  split
  · rename_i hr
    have h2 := Int.mul_ediv_add_emod (a * x) c
    have h3 : a * x ≤ a * c := Int.mul_le_mul_of_nonneg_left h ha
    have h4 : a * x / c < a := by
      rcases Int.lt_or_le (a * x / c) a with h5 | h5
      · exact h5
      · have h6 : c * a ≤ c * (a * x / c) := Int.mul_le_mul_of_nonneg_left h5 (by omega)
        rw [Int.mul_comm c a] at h6
        omega
    omega
  · omega
theorem ceil_bound {x : Int} (h : 0 ≤ x) : 0 ≤ ceilDiv x 1000 ∧ ceilDiv x 1000 ≤ x := by unfold ceilDiv; omega
section
variable {b : Bas} {p : Policy} (P : PolOk b p)
include P
theorem d_age : 1 ≤ b.d p.age := by
  have h1 := P.band 0 (by omega)
  have h2 := d_bound P.toBasOk p.age
  simp only [Int.natCast_zero, Int.add_zero] at h1
  omega
theorem kind_or : p.kind = 0 ∨ 1 ≤ p.years := by
  have := P.zero; have := P.yrs0
  by_cases h : p.kind = 0
  · exact .inl h
  · exact .inr (by omega)
theorem net_base : 1 ≤ b.base p.kind p.age p.years := by
  have := base_pos P.toBasOk p.kind p.age p.years (kind_or P)
  have := d_age P
  omega
theorem net_bound : 0 ≤ netP b p ∧ netP b p ≤ 100000000 := by
  have h1 := top_bound P.toBasOk p.kind p.age p.years
  have h2 := base_pos P.toBasOk p.kind p.age p.years (kind_or P)
  have h3 := d_age P
  have h4 := up_le (a := p.sum) (x := b.top p.kind p.age p.years) (c := b.base p.kind p.age p.years) (by have := P.sum0; omega) h1.1 (by omega) (by omega)
  have := P.sum1
  unfold netP
  omega
theorem office_bound : 0 ≤ netP b p * p.load ∧ netP b p * p.load ≤ 100000000000 ∧ netP b p ≤ officeP b p ∧ officeP b p ≤ 200000000 := by
  have h1 := net_bound P
  have h2 : netP b p * p.load ≤ 100000000 * 1000 := Int.mul_le_mul h1.2 P.load1 P.load0 (by omega)
  have h3 := Int.mul_nonneg h1.1 P.load0
  unfold officeP ceilDiv
  omega
theorem dur_bound : durP b p ≤ 150 := by
  have := P.tab.top; have := P.age0; have := P.tab.first0; have := P.yrs1
  unfold durP Bas.last
  split <;> omega
theorem left_bound {k : Int} (hk : 0 ≤ k) : leftP p k ≤ 120 := by
  have := P.yrs1
  unfold leftP
  split <;> omega
end
/-- a year of a policy in which a reserve can be told -/
structure YearOk (b : Bas) (p : Policy) (k : Int) : Prop extends PolOk b p where
  k0 : 0 ≤ k
  k1 : k ≤ durP b p - 1
  d1 : 1 ≤ b.d (p.age + k)
theorem year_ok {b : Bas} {p : Policy} {k : Int} (h : resCode b p k = 0) : YearOk b p k := by
  unfold resCode at h
  by_cases h1 : polB b p = true
  · rw [if_pos h1] at h
    by_cases h2 : inR k 0 (durP b p - 1) = true
    · rw [if_pos h2] at h
      by_cases h3 : b.d (p.age + k) = 0
      · rw [if_pos h3] at h; omega
      · have h4 := inR_true.1 h2
        have h5 := d_bound (pol_ok h1).toBasOk (p.age + k)
        exact { toPolOk := pol_ok h1, k0 := h4.1, k1 := h4.2, d1 := by omega }
    · rw [if_neg h2] at h; omega
  · rw [if_neg h1] at h; omega
/-- the parts of a reserve, whatever the basis: sizes that fit -/
structure PartOk (s t n v d : Int) : Prop where
  s0 : 0 ≤ s
  s1 : s ≤ 100000000
  n0 : 0 ≤ n
  n1 : n ≤ 100000000
  t0 : 0 ≤ t
  t1 : t ≤ d
  v0 : 0 ≤ v
  v1 : v ≤ 120 * d
  d0 : 1 ≤ d
  d1 : d ≤ 1000000000000000
theorem part_ok {b : Bas} {p : Policy} {k n : Int} (Y : YearOk b p k) (hn : 0 ≤ n ∧ n ≤ 100000000) : PartOk p.sum (partT b p k) n (partB b p k) (partD b p k) := by
  have h1 := top_bound Y.toBasOk p.kind (p.age + k) (leftP p k)
  have h2 := base_bound Y.toBasOk p.kind (p.age + k) (leftP p k) (left_bound Y.toPolOk Y.k0)
  have h3 := d_bound Y.toBasOk (p.age + k)
  exact { s0 := by have := Y.sum0; omega, s1 := Y.sum1, n0 := hn.1, n1 := hn.2, t0 := h1.1, t1 := h1.2, v0 := h2.1, v1 := h2.2, d0 := Y.d1, d1 := h3.2 }
section
variable {s t n v d : Int} (K : PartOk s t n v d)
include K
theorem part_quo : (0 ≤ s * t / d ∧ s * t / d ≤ 100000000) ∧ (0 ≤ n * v / d ∧ n * v / d ≤ 12000000000) := by
  have h1 := mul_div_le (m := 1) K.s0 K.t0 K.d0 (by have := K.t1; omega)
  have h2 := mul_div_le (m := 120) K.n0 K.v0 K.d0 K.v1
  have := K.s1; have := K.n1
  omega
theorem part_rest : (0 ≤ s * t % d ∧ s * t % d < d) ∧ (0 ≤ n * v % d ∧ n * v % d < d) := by
  have h0 := K.d0
  exact ⟨⟨Int.emod_nonneg _ (by omega), Int.emod_lt_of_pos _ (by omega)⟩, ⟨Int.emod_nonneg _ (by omega), Int.emod_lt_of_pos _ (by omega)⟩⟩
/-- the program's way to the forward reserve -/
theorem fwd_low (h : s * t % d < n * v % d) : fwdP s t n v d = (s * t / d - n * v / d - 1, s * t % d - n * v % d + d) := by
  have h1 := Int.mul_ediv_add_emod (s * t) d
  have h2 := Int.mul_ediv_add_emod (n * v) d
  have h3 := part_rest K
  have e : s * t - n * v = (s * t % d - n * v % d + d) + d * (s * t / d - n * v / d - 1) := by rw [Int.mul_sub, Int.mul_sub]; omega
  unfold fwdP
  have h4 : s * t % d - n * v % d + d < d := by omega
  have h5 : 0 ≤ s * t % d - n * v % d + d := by omega
  rw [e, Int.add_mul_ediv_left _ _ (by have := K.d0; omega), Int.ediv_eq_zero_of_lt h5 h4, Int.add_mul_emod_self_left, Int.emod_eq_of_lt h5 h4, Int.zero_add]
theorem fwd_high (h : ¬ s * t % d < n * v % d) : fwdP s t n v d = (s * t / d - n * v / d, s * t % d - n * v % d) := by
  have h1 := Int.mul_ediv_add_emod (s * t) d
  have h2 := Int.mul_ediv_add_emod (n * v) d
  have h3 := part_rest K
  have e : s * t - n * v = (s * t % d - n * v % d) + d * (s * t / d - n * v / d) := by rw [Int.mul_sub]; omega
  unfold fwdP
  have h4 : s * t % d - n * v % d < d := by omega
  have h5 : 0 ≤ s * t % d - n * v % d := by omega
  rw [e, Int.add_mul_ediv_left _ _ (by have := K.d0; omega), Int.ediv_eq_zero_of_lt h5 h4, Int.add_mul_emod_self_left, Int.emod_eq_of_lt h5 h4, Int.zero_add]
theorem fwd_bound : (-12000000001 ≤ (fwdP s t n v d).1 ∧ (fwdP s t n v d).1 ≤ 100000000) ∧ (0 ≤ (fwdP s t n v d).2 ∧ (fwdP s t n v d).2 < d) := by
  have h1 := part_quo K
  have h2 := part_rest K
  have h0 := K.d0
  by_cases h : s * t % d < n * v % d
  · rw [fwd_low K h]; simp only; omega
  · rw [fwd_high K h]; simp only; omega
theorem round_bound : 0 ≤ roundP (fwdP s t n v d) ∧ roundP (fwdP s t n v d) ≤ 100000001 := by
  have h := fwd_bound K
  unfold roundP
  split <;> omega
end
theorem res_bound {b : Bas} {p : Policy} {k : Int} (Y : YearOk b p k) : 0 ≤ resAt b p k ∧ resAt b p k ≤ 100000001 := round_bound (part_ok Y (net_bound Y.toPolOk))
end Go.Proofs.Ythcnkcoplgdlkaa
