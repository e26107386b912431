import Derived.Lib.ItoaNum
import Derived.Test.YtjbcalbbhomkjaaGreatELimb
namespace Go.Proofs.YtjbcalbbhomkjaaGreat
theorem shift_law {x : Nat} (h1 : 1 ≤ x) (h2 : x < 65536) : ∃ s : Nat, s ≤ 15 ∧ (16 - (Lib.bitLen x : Int)) = (s : Int) ∧ 32768 ≤ x * 2 ^ s ∧ (x + 1) * 2 ^ s ≤ 65536 := by
 obtain ⟨a, b, c⟩ := Lib.bitLenAux_bounds 64 x (by omega) (by omega)
 have hL : Lib.bitLen x ≤ 16 := Lib.bitLen_le x 16 (by omega) (by omega)
 unfold Lib.bitLen at *
 generalize Lib.bitLenAux 64 x = L at *
 refine ⟨16 - L, by omega, by omega, ?_, ?_⟩
 ·have h3 := Nat.mul_le_mul_right (2 ^ (16 - L)) b
  rw [← Nat.pow_add, show L - 1 + (16 - L) = 15 from by omega] at h3
  exact h3
 ·have h3 := Nat.mul_le_mul_right (2 ^ (16 - L)) (Nat.succ_le_of_lt c)
  rw [← Nat.pow_add, show L + (16 - L) = 16 from by omega] at h3
  exact h3
namespace Lb
theorem take_all {zs : List Nat} {k : Nat} (hk : k ≤ zs.length) (h : val zs < 65536 ^ k) : val (zs.take k) = val zs := by
 have h1 := val_take_drop zs k hk
 rcases Nat.eq_zero_or_pos (val (zs.drop k)) with h0 | h0
 ·rw [h0] at h1; omega
 ·have := Nat.mul_le_mul_left (65536 ^ k) h0
  omega
theorem shift_top {ys zv : List Nat} {k s : Nat} (oky : Ok ys) (hy : ys.length = k + 1) (okz : Ok zv) (hz : zv.length = k + 2) (h1 : 32768 ≤ ys[k]?.getD 0 * 2 ^ s) (h2 : (ys[k]?.getD 0 + 1) * 2 ^ s ≤ 65536)
  (hv : val zv = val ys * 2 ^ s) : val (zv.take (k + 1)) = val ys * 2 ^ s ∧ 32768 ≤ (zv.take (k + 1))[k]?.getD 0 ∧ val ys * 2 ^ s < 65536 ^ (k + 1) ∧ 65536 ^ k * 32768 ≤ val ys * 2 ^ s := by
 have e1 := val_split ys k (by omega)
 have e2 : ys.drop (k + 1) = [] := List.drop_of_length_le (by omega)
 rw [e2, val_nil, Nat.mul_zero, Nat.add_zero] at e1
 have e3 := val_lt (ok_take oky k)
 rw [List.length_take, Nat.min_eq_left (by omega)] at e3
 generalize ys[k]?.getD 0 = x at *
 generalize val (ys.take k) = r at *
 have hlt : val ys * 2 ^ s < 65536 ^ (k + 1) := by
  have hlt1 : val ys < 65536 ^ k * (x + 1) := by rw [e1, Nat.mul_add, Nat.mul_one]; omega
  have h3 := Nat.mul_lt_mul_of_pos_right hlt1 (Nat.two_pow_pos s)
  have h4 := Nat.mul_le_mul_left (65536 ^ k) h2
  rw [Nat.mul_assoc] at h3
  rw [Nat.pow_succ]
  omega
 have hge : 65536 ^ k * 32768 ≤ val ys * 2 ^ s := by
  have h3 := Nat.mul_le_mul_left (65536 ^ k) h1
  have h4 : 65536 ^ k * x ≤ val ys := by rw [e1]; omega
  have h5 := Nat.mul_le_mul_right (2 ^ s) h4
  rw [Nat.mul_assoc] at h5
  omega
 refine ⟨?_, ?_, hlt, hge⟩
 ·rw [take_all (by omega) (by rw [hv]; exact hlt), hv]
 ·have e4 : (zv.take (k + 1))[k]?.getD 0 = zv[k]?.getD 0 := by rw [List.getElem?_take]; simp
  rw [e4]
  have e5 := take_all (zs := zv) (k := k + 1) (by omega) (by rw [hv]; exact hlt)
  rw [val_take_succ] at e5
  have e6 := val_lt (ok_take okz k)
  rw [List.length_take, Nat.min_eq_left (by omega)] at e6
  generalize zv[k]?.getD 0 = z at *
  rcases Nat.lt_or_ge z 32768 with h | h
  ·have h7 := Nat.mul_le_mul_left (65536 ^ k) (show z + 1 ≤ 32768 from h)
   rw [Nat.mul_add, Nat.mul_one] at h7
   omega
  ·exact h
theorem shift_small {xs : List Nat} {a n k s V : Nat} (okx : Ok xs) (hx : xs.length = n) (ha : val xs = a) (hs : s ≤ 15) (hV : 65536 ^ k * 32768 ≤ V) (hkn : k ≤ n) : a * 2 ^ s < 65536 ^ (n - k) * V := by
 have h1 := val_lt okx
 rw [hx, ha] at h1
 have h2 : 2 ^ s ≤ 32768 := by have := Nat.pow_le_pow_right (n := 2) (by omega) hs; simpa using this
 have h3 : a * 2 ^ s < 65536 ^ n * 2 ^ s := Nat.mul_lt_mul_of_pos_right h1 (Nat.two_pow_pos s)
 have h4 := Nat.mul_le_mul_left (65536 ^ n) h2
 have h5 := Nat.mul_le_mul_left (65536 ^ (n - k)) hV
 rw [← Nat.mul_assoc, ← Nat.pow_add, show n - k + k = n from by omega] at h5
 omega
theorem div_step {qs : List Nat} {Z V z j : Nat} (hj : j < qs.length) (h : 65536 ^ (j + 1) * val (qs.drop (j + 1)) * V + z = Z) :
  65536 ^ j * val ((qs.set j (z / (65536 ^ j * V))).drop j) * V + z % (65536 ^ j * V) = Z := by
 rw [val_drop, List.getElem?_set_self hj, List.drop_set_of_lt (by omega)]
 have h1 := Nat.div_add_mod z (65536 ^ j * V)
 rw [← h, Option.getD_some, Nat.mul_add, Nat.add_mul, ← Nat.mul_assoc, ← Nat.pow_succ]
 rw [show 65536 ^ j * (z / (65536 ^ j * V)) * V = 65536 ^ j * V * (z / (65536 ^ j * V)) from by rw [Nat.mul_right_comm], Nat.add_right_comm, h1, Nat.add_comm]
theorem div_all {qs : List Nat} {a b s z : Nat} (hz : z < b * 2 ^ s) (h : 65536 ^ 0 * val (qs.drop 0) * (b * 2 ^ s) + z = a * 2 ^ s) : val qs = a / b ∧ z / 2 ^ s = a % b ∧ z = a % b * 2 ^ s := by
 have hs := Nat.two_pow_pos s
 simp only [Nat.pow_zero, Nat.one_mul, List.drop_zero] at h
 have hV : 0 < b * 2 ^ s := by omega
 have h1 : a * 2 ^ s / (b * 2 ^ s) = val qs := by
  rw [← h, Nat.mul_comm (val qs), Nat.mul_add_div hV, Nat.div_eq_of_lt hz, Nat.add_zero]
 have h2 : a * 2 ^ s % (b * 2 ^ s) = z := by
  rw [← h, Nat.mul_comm (val qs), Nat.mul_add_mod, Nat.mod_eq_of_lt hz]
 rw [Nat.mul_div_mul_right _ _ hs] at h1
 rw [Nat.mul_mod_mul_right] at h2
 exact ⟨h1.symm, by rw [← h2, Nat.mul_div_cancel _ hs], h2.symm⟩
end Lb
end Go.Proofs.YtjbcalbbhomkjaaGreat
