import Derived.Test.YtjbcalbbhomkjaaGreatESum
namespace Go.Proofs.YtjbcalbbhomkjaaGreat
namespace Q
theorem mul_num (a b : Rat) : (a * b).num = (a.num / (Nat.gcd a.num.natAbs b.den : Nat)) * (b.num / (Nat.gcd b.num.natAbs a.den : Nat)) := by
 show (Rat.mul a b).num = _
 unfold Rat.mul
 rfl
theorem mul_den (a b : Rat) : (a * b).den = (a.den / (Nat.gcd b.num.natAbs a.den)) * (b.den / (Nat.gcd a.num.natAbs b.den)) := by
 show (Rat.mul a b).den = _
 unfold Rat.mul
 rfl
def addN (a b : Rat) : Int := a.num * ((b.den / Nat.gcd a.den b.den : Nat) : Int) + b.num * ((a.den / Nat.gcd a.den b.den : Nat) : Int)
theorem maybe_num (num : Int) (den g : Nat) (h1 h2 h3 h4) : (Rat.maybeNormalize num den g h1 h2 h3 h4).num = num / (g : Int) := by
 unfold Rat.maybeNormalize
 split
 ·rename_i h; subst h; simp
 ·rfl
theorem maybe_den (num : Int) (den g : Nat) (h1 h2 h3 h4) : (Rat.maybeNormalize num den g h1 h2 h3 h4).den = den / g := by
 unfold Rat.maybeNormalize
 split
 ·rename_i h; subst h; simp
 ·rfl
theorem add_num (a b : Rat) : (a + b).num = addN a b / (Nat.gcd (addN a b).natAbs (Nat.gcd a.den b.den) : Nat) := by
 show (Rat.add a b).num = _
 unfold Rat.add
 simp only
 split
 ·rename_i h
  simp [addN, h]
 ·rw [maybe_num]; rfl
theorem add_den (a b : Rat) : (a + b).den = (a.den / Nat.gcd a.den b.den) * (b.den / Nat.gcd (addN a b).natAbs (Nat.gcd a.den b.den)) := by
 have hd : Nat.gcd (addN a b).natAbs (Nat.gcd a.den b.den) ∣ b.den := Nat.dvd_trans (Nat.gcd_dvd_right _ _) (Nat.gcd_dvd_right _ _)
 rw [← Nat.mul_div_assoc _ hd]
 show (Rat.add a b).den = _
 unfold Rat.add
 simp only
 split
 ·rename_i h
  simp [addN, h]
 ·rw [maybe_den]; rfl
theorem inv_pos (q : Rat) (h : 0 < q.num) : q⁻¹.num = q.den ∧ q⁻¹.den = q.num.natAbs := by
 show (Rat.inv q).num = _ ∧ (Rat.inv q).den = _
 unfold Rat.inv
 rw [dif_neg (by omega), dif_pos h]
 exact ⟨rfl, rfl⟩
theorem inv_neg (q : Rat) (h : q.num < 0) : q⁻¹.num = -q.den ∧ q⁻¹.den = q.num.natAbs := by
 show (Rat.inv q).num = _ ∧ (Rat.inv q).den = _
 unfold Rat.inv
 rw [dif_pos h]
 exact ⟨rfl, rfl⟩
def neg (q : Rat) : Bool := decide (q.num < 0)
def m (q : Rat) : Nat := q.num.natAbs
theorem neg_zero {q : Rat} (h : m q = 0) : neg q = false := by
 unfold m at h; unfold neg
 have : q.num = 0 := by omega
 simp [this]
theorem sgn_num (q : Rat) : sgn (neg q) (m q) = q.num := by
 unfold sgn neg m
 by_cases h : q.num < 0
 ·rw [if_pos (by simpa using h)]; omega
 ·rw [if_neg (by simpa using h)]; omega
theorem gcd_one (q : Rat) : Nat.gcd (m q) q.den = 1 := q.reduced
theorem sgn_div {neg : Bool} {m g : Nat} (h : g ∣ m) : sgn neg (m / g) = (sgn neg m).fdiv (sgn false g) := by
 obtain ⟨k, rfl⟩ := h
 rcases Nat.eq_zero_or_pos g with h0 | h0
 ·subst h0; cases neg <;> simp [sgn]
 ·rw [Nat.mul_div_cancel_left _ h0]
  cases neg
  ·simp only [sgn, Bool.false_eq_true, if_false]
   rw [Int.natCast_mul, Int.mul_comm, Int.mul_fdiv_cancel _ (by omega)]
  ·simp only [sgn, if_true, Bool.false_eq_true, if_false]
   rw [Int.natCast_mul, ← Int.mul_neg, Int.mul_comm, Int.mul_fdiv_cancel _ (by omega)]
theorem sgn_ediv {neg : Bool} {m g : Nat} (h : g ∣ m) : sgn neg (m / g) = sgn neg m / (g : Int) := by
 obtain ⟨k, rfl⟩ := h
 rcases Nat.eq_zero_or_pos g with h0 | h0
 ·subst h0; cases neg <;> simp [sgn]
 ·rw [Nat.mul_div_cancel_left _ h0]
  cases neg
  ·simp only [sgn, Bool.false_eq_true, if_false]
   rw [Int.natCast_mul, Int.mul_comm, Int.mul_ediv_cancel _ (by omega)]
  ·simp only [sgn, if_true]
   rw [Int.natCast_mul, ← Int.mul_neg, Int.mul_comm, Int.mul_ediv_cancel _ (by omega)]
theorem sgn_zero {neg : Bool} {m g : Nat} (hg : g ∣ m) (h : m = 0 → neg = false) : m / g = 0 → neg = false := fun h0 => by
 obtain ⟨k, rfl⟩ := hg
 rcases Nat.eq_zero_or_pos g with h1 | h1
 ·subst h1; exact h (by simp)
 ·rw [Nat.mul_div_cancel_left _ h1] at h0; subst h0; exact h (by simp)
structure Sz (k : Nat) (q : Rat) : Prop where
 n : m q < 65536 ^ k
 d : q.den < 65536 ^ k
theorem div_lt {m g k : Nat} (h : m < 65536 ^ k) : m / g < 65536 ^ k := Nat.lt_of_le_of_lt (Nat.div_le_self _ _) h
theorem mul_lt {a b k l : Nat} (h : a < 65536 ^ k) (h' : b < 65536 ^ l) : a * b < 65536 ^ (k + l) := by rw [Nat.pow_add]; exact Nat.mul_lt_mul'' h h'
theorem gcd_lt {a b k : Nat} (h : a < 65536 ^ k) (h' : b < 65536 ^ k) : Nat.gcd a b < 65536 ^ k := by
 rcases Nat.eq_zero_or_pos a with h0 | h0
 ·subst h0; rwa [Nat.gcd_zero_left]
 ·exact Nat.lt_of_le_of_lt (Nat.gcd_le_left b h0) h
theorem m_mul (a b : Rat) : m (a * b) = (m a / Nat.gcd (m a) b.den) * (m b / Nat.gcd (m b) a.den) := by
 have e := mul_num a b
 have h1 : sgn (neg a) (m a / Nat.gcd (m a) b.den) = a.num / (Nat.gcd a.num.natAbs b.den : Nat) := by rw [sgn_ediv (Nat.gcd_dvd_left _ _), sgn_num]; rfl
 have h2 : sgn (neg b) (m b / Nat.gcd (m b) a.den) = b.num / (Nat.gcd b.num.natAbs a.den : Nat) := by rw [sgn_ediv (Nat.gcd_dvd_left _ _), sgn_num]; rfl
 rw [← h1, ← h2] at e
 unfold m at e ⊢
 rw [e, Int.natAbs_mul]
 have : ∀ (x : Bool) (k : Nat), (sgn x k).natAbs = k := fun x k => by unfold sgn; split <;> omega
 rw [this, this]
theorem Sz.mul {a b : Rat} {k l : Nat} (h : Sz k a) (h' : Sz l b) : Sz (k + l) (a * b) := by
 constructor
 ·rw [m_mul]; exact mul_lt (div_lt h.n) (div_lt h'.n)
 ·rw [mul_den]; exact mul_lt (div_lt h.d) (div_lt h'.d)
theorem addN_lt {a b : Rat} {k l : Nat} (h : Sz k a) (h' : Sz l b) : (addN a b).natAbs < 65536 ^ (k + l + 1) := by
 unfold addN
 refine Nat.lt_of_le_of_lt (Int.natAbs_add_le _ _) ?_
 rw [Int.natAbs_mul, Int.natAbs_mul, Int.natAbs_natCast, Int.natAbs_natCast, Nat.pow_succ]
 have h1 := mul_lt h.n (div_lt (g := Nat.gcd a.den b.den) h'.d)
 have h2 := mul_lt (div_lt (g := Nat.gcd a.den b.den) h.d) h'.n
 unfold m at h1 h2
 rw [Nat.mul_comm (a.den / _)] at h2
 omega
theorem Sz.add {a b : Rat} {k l : Nat} (h : Sz k a) (h' : Sz l b) : Sz (k + l + 1) (a + b) := by
 constructor
 ·unfold m
  rw [add_num]
  refine Nat.lt_of_le_of_lt ?_ (addN_lt h h')
  rw [Int.natAbs_ediv_of_dvd (Int.ofNat_dvd_left.2 (Nat.gcd_dvd_left _ _)), Int.natAbs_natCast]
  exact Nat.div_le_self _ _
 ·rw [add_den]
  refine Nat.lt_of_lt_of_le (mul_lt (div_lt h.d) (div_lt h'.d)) (Nat.pow_le_pow_right (by omega) (by omega))
theorem Sz.mono {q : Rat} {k l : Nat} (h : Sz k q) (hl : k ≤ l) : Sz l q := ⟨Nat.lt_of_lt_of_le h.n (Nat.pow_le_pow_right (by omega) hl), Nat.lt_of_lt_of_le h.d (Nat.pow_le_pow_right (by omega) hl)⟩
theorem add_fdiv (a b : Rat) : sgn (neg (a + b)) (m (a + b)) = (addN a b).fdiv (sgn false (Nat.gcd (addN a b).natAbs (Nat.gcd a.den b.den))) := by
 rw [sgn_num, add_num]
 have hp : 0 < Nat.gcd (addN a b).natAbs (Nat.gcd a.den b.den) := Nat.gcd_pos_of_pos_right _ (Nat.gcd_pos_of_pos_left _ (Nat.pos_of_ne_zero a.den_nz))
 unfold sgn
 simp only [Bool.false_eq_true, if_false]
 rw [Int.fdiv_eq_ediv_of_nonneg _ (by omega)]
theorem mul_sgn (a b : Rat) : sgn (neg (a * b)) (m (a * b)) = sgn (neg a) (m a / Nat.gcd (m a) b.den) * sgn (neg b) (m b / Nat.gcd (m b) a.den) := by
 rw [sgn_num, mul_num, sgn_ediv (Nat.gcd_dvd_left _ _), sgn_ediv (Nat.gcd_dvd_left _ _), sgn_num, sgn_num]; rfl
theorem sgn_mul_f (n : Bool) (a b : Nat) : sgn n (a * b) = sgn n a * sgn false b := by cases n <;> simp [sgn, Int.neg_mul]
theorem gcd_den_ne (a b : Rat) : Nat.gcd a.den b.den ≠ 0 := Nat.ne_of_gt (Nat.gcd_pos_of_pos_left _ (Nat.pos_of_ne_zero a.den_nz))
theorem gcd_num_ne (a b : Rat) : Nat.gcd (m a) b.den ≠ 0 := Nat.ne_of_gt (Nat.gcd_pos_of_pos_right _ (Nat.pos_of_ne_zero b.den_nz))
theorem div_ne {d g : Nat} (h : g ∣ d) (hd : d ≠ 0) : d / g ≠ 0 := by
 obtain ⟨k, rfl⟩ := h
 have hg : 0 < g := by rcases Nat.eq_zero_or_pos g with h | h; (· subst h; simp at hd); exact h
 rw [Nat.mul_div_cancel_left _ hg]
 rintro rfl; simp at hd
theorem zneg {z : Int} (h : z.natAbs = 0) : decide (z < 0) = false := by
 have : z = 0 := by omega
 simp [this]
theorem sgn_z (z : Int) : sgn (decide (z < 0)) z.natAbs = z := by
 unfold sgn
 by_cases h : z < 0
 ·rw [if_pos (by simpa using h)]; omega
 ·rw [if_neg (by simpa using h)]; omega
theorem addN_sgn (a b : Rat) : sgn (decide (addN a b < 0)) (addN a b).natAbs = sgn (neg a) (m a * (b.den / Nat.gcd a.den b.den)) + sgn (neg b) (m b * (a.den / Nat.gcd a.den b.den)) := by
 rw [sgn_z, sgn_mul_f, sgn_mul_f, sgn_num, sgn_num]; rfl
theorem int_neg (x : Int) : neg (x : Rat) = decide (x < 0) := by unfold neg; rw [Rat.num_intCast]
theorem int_m (x : Int) : m (x : Rat) = x.natAbs := by simp [m, Rat.num_intCast]
theorem int_den (x : Int) : (x : Rat).den = 1 := Rat.den_intCast x
theorem len_le {k n : Nat} (h : n < 65536 ^ k) : (Lb.limbs n).length ≤ k := Lb.limbs_length_le.2 h
theorem lt_len {k n : Nat} (h : (Lb.limbs n).length ≤ k) : n < 65536 ^ k := Lb.limbs_length_le.1 h
theorem Sz.fits {q : Rat} (h : Sz 256 q) : (decide (((Lb.limbs (m q)).length : Int) ≤ 256) && decide (((Lb.limbs q.den).length : Int) ≤ 256)) = true := by
 have h1 := len_le h.n
 have h2 := len_le h.d
 simp only [Bool.and_eq_true, decide_eq_true_eq]
 omega
theorem den_len (q : Rat) : ((((Lb.limbs q.den).length : Int)) == 0) = false := by
 rw [beq_eq_false_iff_ne]
 intro h
 have : Lb.limbs q.den = [] := List.eq_nil_of_length_eq_zero (by omega)
 exact q.den_nz (Lb.limbs_eq_nil.1 this)
theorem neg_m (q : Rat) : m (-q) = m q := by unfold m; rw [Rat.neg_num]; omega
theorem neg_den (q : Rat) : (-q).den = q.den := Rat.neg_den q
theorem limbs_pos_iff (k : Nat) : decide (0 < ((Lb.limbs k).length : Int)) = decide (k ≠ 0) := by
 have : (0 < ((Lb.limbs k).length : Int)) ↔ k ≠ 0 := by
  constructor
  ·rintro h rfl; simp at h
  ·intro h
   rcases Nat.eq_zero_or_pos (Lb.limbs k).length with h0 | h0
   ·exact absurd (Lb.limbs_eq_nil.1 (List.eq_nil_of_length_eq_zero h0)) h
   ·omega
 simp only [this]
theorem neg_neg (q : Rat) : (!neg q && decide (0 < ((Lb.limbs (m q)).length : Int))) = neg (-q) := by
 rw [limbs_pos_iff]
 unfold neg m
 rw [Rat.neg_num, Bool.eq_iff_iff]
 simp only [Bool.and_eq_true, Bool.not_eq_true', decide_eq_false_iff_not, decide_eq_true_eq]
 omega
theorem Sz.neg {k : Nat} {q : Rat} (h : Sz k q) : Sz k (-q) := ⟨by rw [neg_m]; exact h.n, by rw [neg_den]; exact h.d⟩
def cmp (q r : Rat) : Int := if q < r then -1 else if q = r then 0 else 1
theorem cross_lt (q r : Rat) : q < r ↔ q.num * r.den < r.num * q.den := Rat.lt_iff q r
theorem cross_eq (q r : Rat) : q = r ↔ q.num * r.den = r.num * q.den := by
 constructor
 ·rintro rfl; rfl
 ·intro h
  have h1 : ¬ q < r := fun h' => by rw [cross_lt] at h'; omega
  have h2 : ¬ r < q := fun h' => by rw [cross_lt] at h'; omega
  exact Rat.le_antisymm (Rat.not_lt.1 h2) (Rat.not_lt.1 h1)
theorem inv_cases {q : Rat} (h : q ≠ 0) : (neg q = false ∧ neg q⁻¹ = false ∧ m q⁻¹ = q.den ∧ q⁻¹.den = m q) ∨ (neg q = true ∧ neg q⁻¹ = true ∧ m q⁻¹ = q.den ∧ q⁻¹.den = m q) := by
 have hn : q.num ≠ 0 := fun h0 => h (Rat.num_eq_zero.1 h0)
 have hd := Nat.pos_of_ne_zero q.den_nz
 unfold neg m
 by_cases hp : 0 < q.num
 ·left
  obtain ⟨e1, e2⟩ := inv_pos q hp
  rw [e1, e2]
  exact ⟨decide_eq_false (by omega), decide_eq_false (by omega), Int.natAbs_natCast _, rfl⟩
 ·right
  obtain ⟨e1, e2⟩ := inv_neg q (by omega)
  rw [e1, e2]
  exact ⟨decide_eq_true (by omega), decide_eq_true (by omega), by rw [Int.natAbs_neg, Int.natAbs_natCast], rfl⟩
theorem Sz.inv {k : Nat} {q : Rat} (h : Sz k q) (h0 : q ≠ 0) : Sz k q⁻¹ := by
 rcases inv_cases h0 with ⟨_, _, e1, e2⟩ | ⟨_, _, e1, e2⟩
 ·exact ⟨by rw [e1]; exact h.d, by rw [e2]; exact h.n⟩
 ·exact ⟨by rw [e1]; exact h.d, by rw [e2]; exact h.n⟩
theorem m_zero {q : Rat} : m q = 0 ↔ q = 0 := by
 unfold m
 rw [Int.natAbs_eq_zero, Rat.num_eq_zero]
theorem num_len (q : Rat) : ((((Lb.limbs (m q)).length : Int)) == 0) = decide (q = 0) := by
 have : (((Lb.limbs (m q)).length : Int) = 0) ↔ q = 0 := by
  rw [← m_zero, ← Lb.limbs_eq_nil]
  constructor
  ·intro h; exact List.eq_nil_of_length_eq_zero (by omega)
  ·intro h; rw [h]; rfl
 rw [Bool.eq_iff_iff]
 simp only [beq_iff_eq, decide_eq_true_eq]
 exact this
end Q
end Go.Proofs.YtjbcalbbhomkjaaGreat
