import Derived.Test.YtjbcalbbhomkjaaGreatELimb
namespace Go.Proofs.YtjbcalbbhomkjaaGreat
namespace Lb
theorem guess_ok {Z V D M : Nat} (hD : 0 < D) (hM : 0 < M) (hZ : Z < D * V * 65536) (hV : 65536 ≤ V / M) :
  Z / (D * V) ≤ min (Z / (D * M) / (V / M)) 65535 ∧ min (Z / (D * M) / (V / M)) 65535 ≤ Z / (D * V) + 1 := by
 have hV0 : 0 < V := by
  rcases Nat.eq_zero_or_pos V with h | h
  ·subst h; simp at hV
  ·exact h
 have hDV : 0 < D * V := Nat.mul_pos hD hV0
 have hDM : 0 < D * M := Nat.mul_pos hD hM
 generalize hV2 : V / M = V2 at *
 have a1 : V2 * M ≤ V := by rw [← hV2]; exact Nat.div_mul_le_self V M
 have a2 : V < (V2 + 1) * M := by rw [← hV2]; exact (Nat.div_lt_iff_lt_mul hM).1 (Nat.lt_succ_self _)
 generalize hq : Z / (D * V) = q at *
 have b1 : q * (D * V) ≤ Z := by rw [← hq]; exact Nat.div_mul_le_self Z _
 have b2 : Z < (q + 1) * (D * V) := by rw [← hq]; exact (Nat.div_lt_iff_lt_mul hDV).1 (Nat.lt_succ_self _)
 have hqB : q < 65536 := by
  rw [← hq]; exact (Nat.div_lt_iff_lt_mul hDV).2 (by rw [Nat.mul_comm]; exact hZ)
 refine ⟨?_, ?_⟩
 ·refine Nat.le_min.2 ⟨?_, by omega⟩
  rw [Nat.le_div_iff_mul_le (by omega), Nat.le_div_iff_mul_le hDM]
  have c : q * V2 * (D * M) = q * (D * (V2 * M)) := by
   rw [Nat.mul_assoc, Nat.mul_left_comm V2 D M]
  rw [c]
  exact Nat.le_trans (Nat.mul_le_mul_left _ (Nat.mul_le_mul_left _ a1)) b1
 ·rcases Nat.lt_or_ge (q + 1) (Z / (D * M) / V2) with h | h
  ·exfalso
   have h1 : (q + 2) * V2 ≤ Z / (D * M) := by
    rw [← Nat.le_div_iff_mul_le (by omega)]; exact h
   have h2 : (q + 2) * V2 * (D * M) ≤ Z := by rw [← Nat.le_div_iff_mul_le hDM]; exact h1
   have h3 : (q + 1) * (D * V) ≤ (q + 1) * (D * ((V2 + 1) * M)) := Nat.mul_le_mul_left _ (Nat.mul_le_mul_left _ (Nat.le_of_lt a2))
   have h4 : (q + 2) * V2 * (D * M) < (q + 1) * (V2 + 1) * (D * M) := by
    have e : (q + 1) * (D * ((V2 + 1) * M)) = (q + 1) * (V2 + 1) * (D * M) := by
     rw [Nat.mul_left_comm D (V2 + 1) M, Nat.mul_assoc]
    rw [← e]; omega
   have h5 := Nat.lt_of_mul_lt_mul_right h4
   have h6 : (q + 2) * V2 = (q + 1) * V2 + V2 := by rw [show q + 2 = (q + 1) + 1 from rfl, Nat.succ_mul]
   rw [Nat.mul_add, h6] at h5
   omega
  ·exact Nat.le_trans (Nat.min_le_left _ _) h
theorem div_three {zs : List Nat} (hok : Ok zs) (p : Nat) (hp : p ≤ zs.length) (h : val zs < 65536 ^ (p + 3)) :
  val zs / 65536 ^ p = (zs[p + 2]?.getD 0 * 65536 + zs[p + 1]?.getD 0) * 65536 + zs[p]?.getD 0 := by
 have h1 := val_take_drop zs p hp
 have h2 := val_lt (ok_take hok p)
 rw [List.length_take, Nat.min_eq_left hp] at h2
 have hpos : 0 < 65536 ^ p := Nat.pow_pos (by omega)
 have e : val zs / 65536 ^ p = val (zs.drop p) := by
  rw [h1, Nat.add_mul_div_left _ _ hpos, Nat.div_eq_of_lt h2, Nat.zero_add]
 rw [e, val_drop, val_drop zs (p + 1), val_drop zs (p + 1 + 1)]
 have h3 : val (zs.drop (p + 1 + 1 + 1)) = 0 := by
  rcases Nat.eq_zero_or_pos (val (zs.drop (p + 1 + 1 + 1))) with h4 | h4
  ·exact h4
  ·exfalso
   have h5 : 65536 ^ p * val (zs.drop p) ≤ val zs := by omega
   have h6 : 65536 * 65536 * 65536 ≤ val (zs.drop p) := by
    rw [val_drop, val_drop zs (p + 1), val_drop zs (p + 1 + 1)]; omega
   have h7 := Nat.mul_le_mul_left (65536 ^ p) h6
   have h8 : 65536 ^ (p + 3) = 65536 ^ p * (65536 * 65536 * 65536) := by rw [Nat.pow_add]
   omega
 have e2 : zs[p + 2]?.getD 0 = zs[p + 1 + 1]?.getD 0 := rfl
 rw [h3, e2]; omega
theorem div_two {ys : List Nat} (hok : Ok ys) (m : Nat) (hm : ys.length = m + 2) : val ys / 65536 ^ m = ys[m + 1]?.getD 0 * 65536 + ys[m]?.getD 0 := by
 have h1 := val_take_drop ys m (by omega)
 have h2 := val_lt (ok_take hok m)
 rw [List.length_take, Nat.min_eq_left (by omega)] at h2
 have hpos : 0 < 65536 ^ m := Nat.pow_pos (by omega)
 have e : val ys / 65536 ^ m = val (ys.drop m) := by
  rw [h1, Nat.add_mul_div_left _ _ hpos, Nat.div_eq_of_lt h2, Nat.zero_add]
 rw [e, val_drop, val_drop ys (m + 1), List.drop_of_length_le (i := m + 1 + 1) (by omega)]
 simp only [val_nil]; omega
theorem val_lt_of_zero {zs : List Nat} (hok : Ok zs) (p : Nat) (h : ∀ j, p ≤ j → zs[j]?.getD 0 = 0) : val zs < 65536 ^ p := by
 induction p generalizing zs with
 | zero =>
  have : val zs = 0 := by
   induction zs with
   | nil => rfl
   | cons x xs ih =>
    have h0 := h 0 (by omega)
    simp at h0
    have h1 := ih (ok_cons.1 hok).2 (fun j _ => by have := h (j + 1) (by omega); simpa using this)
    simp [h0, h1]
  rw [this]; simp
 | succ p ih =>
  cases zs with
  | nil => simp; exact Nat.pow_pos (by omega)
  | cons x xs =>
   have h1 := ih (ok_cons.1 hok).2 (fun j hj => by have := h (j + 1) (by omega); simpa using this)
   have h2 := (ok_cons.1 hok).1
   simp only [val_cons, Nat.pow_succ]; omega
theorem zero_of_val_lt {zs : List Nat} {p j : Nat} (h : val zs < 65536 ^ p) (hj : p ≤ j) : zs[j]?.getD 0 = 0 := by
 by_cases hl : j < zs.length
 ·have h1 := val_split zs j hl
  rcases Nat.eq_zero_or_pos (zs[j]?.getD 0) with h2 | h2
  ·exact h2
  ·exfalso
   have h3 : 65536 ^ p ≤ 65536 ^ j := Nat.pow_le_pow_right (by omega) hj
   have h4 : 65536 ^ j * 1 ≤ 65536 ^ j * (zs[j]?.getD 0 + 65536 * val (zs.drop (j + 1))) := Nat.mul_le_mul_left _ (by omega)
   omega
 ·rw [List.getElem?_eq_none (by omega)]; rfl
theorem test_le {T z v1 v2 g : Nat} (hle : g * v1 ≤ T) (h : g * v2 ≤ (T - g * v1) * 65536 + z) (hv : 0 < v1 * 65536 + v2) : g ≤ (T * 65536 + z) / (v1 * 65536 + v2) := by
 rw [Nat.le_div_iff_mul_le hv, Nat.mul_add, ← Nat.mul_assoc]
 rw [Nat.sub_mul] at h
 generalize g * v1 = P at *
 generalize g * v2 = R at *
 omega
theorem test_gt {T z v1 v2 g : Nat} (hle : g * v1 ≤ T) (h : (T - g * v1) * 65536 + z < g * v2) (hv : 0 < v1 * 65536 + v2) : (T * 65536 + z) / (v1 * 65536 + v2) < g := by
 rw [Nat.div_lt_iff_lt_mul hv, Nat.mul_add, ← Nat.mul_assoc]
 rw [Nat.sub_mul] at h
 generalize g * v1 = P at *
 generalize g * v2 = R at *
 omega
theorem guess_start {T z v1 v2 : Nat} (hz : z < 65536) (hv : 0 < v1) : (T * 65536 + z) / (v1 * 65536 + v2) ≤ T / v1 := by
 refine (Nat.le_div_iff_mul_le hv).2 ?_
 have h1 := Nat.div_mul_le_self (T * 65536 + z) (v1 * 65536 + v2)
 generalize (T * 65536 + z) / (v1 * 65536 + v2) = q at *
 rw [Nat.mul_add, ← Nat.mul_assoc] at h1
 generalize q * v1 = P at *
 generalize q * v2 = R at *
 omega
theorem guess_down {T z v1 v2 g : Nat} (hle : (g + 1) * v1 ≤ T) (h : (T - (g + 1) * v1) * 65536 + z < (g + 1) * v2) (hv : 0 < v1) : (T * 65536 + z) / (v1 * 65536 + v2) ≤ g := by
 have := test_gt hle h (by omega)
 omega
theorem guess_brk {T z v1 v2 g : Nat} (hle : g * v1 ≤ T) (hR : 65535 < T - g * v1) (hg : g ≤ 65535) (h2 : v2 < 65536) (hv : 0 < v1) : g ≤ (T * 65536 + z) / (v1 * 65536 + v2) := by
 refine test_le hle ?_ (by omega)
 have h3 : g * v2 ≤ 65535 * 65535 := Nat.mul_le_mul hg (by omega)
 generalize g * v1 = P at *
 generalize g * v2 = Q at *
 omega
theorem sub_times {zs : List Nat} {p z g x c r c' : Nat} (hp : p < zs.length) (hz : zs[p]?.getD 0 = z) (hr : r + g * x + c = z + 65536 * c') :
  val (zs.set p r) + 65536 ^ p * (g * x) + 65536 ^ p * c = val zs + 65536 ^ (p + 1) * c' := by
 have h1 := val_set (xs := zs) (k := p) (x := r) hp
 rw [hz] at h1
 have h2 : 65536 ^ p * (r + g * x + c) = 65536 ^ p * (z + 65536 * c') := by rw [hr]
 have h3 : 65536 ^ (p + 1) * c' = 65536 ^ p * (65536 * c') := by rw [Nat.pow_succ, Nat.mul_assoc]
 rw [h3]
 generalize 65536 ^ p = q at *
 simp only [Nat.mul_add] at h2
 omega
theorem pow_bound {zs ys : List Nat} {off m : Nat} (hy : Ok ys) (hl : ys.length = m + 2) (h : val zs < 65536 ^ off * val ys * 65536) : val zs < 65536 ^ (off + m + 3) := by
 have h1 := val_lt hy
 rw [hl] at h1
 have h2 : 65536 ^ off * val ys * 65536 ≤ 65536 ^ off * 65536 ^ (m + 2) * 65536 := Nat.mul_le_mul_right _ (Nat.mul_le_mul_left _ (Nat.le_of_lt h1))
 have h3 : 65536 ^ off * 65536 ^ (m + 2) * 65536 = 65536 ^ (off + m + 3) := by
  rw [← Nat.pow_add, show off + m + 3 = (off + (m + 2)) + 1 from by omega, Nat.pow_succ]
 omega
theorem dg_guess {zs ys : List Nat} {off m T gq : Nat} (hz : Ok zs) (hy : Ok ys) (hl : ys.length = m + 2) (hp : off + m ≤ zs.length) (h : val zs < 65536 ^ off * val ys * 65536) (h1 : 1 ≤ ys[m + 1]?.getD 0)
  (hT : T = zs[off + (m + 2)]?.getD 0 * 65536 + zs[off + (m + 1)]?.getD 0) (hg : gq = min ((T * 65536 + zs[off + m]?.getD 0) / (ys[m + 1]?.getD 0 * 65536 + ys[m]?.getD 0)) 65535) :
  val zs / (65536 ^ off * val ys) ≤ gq ∧ gq ≤ val zs / (65536 ^ off * val ys) + 1 := by
 have e1 := div_two hy m hl
 have e2 := div_three hz (off + m) hp (pow_bound hy hl h)
 have e3 : 65536 ^ (off + m) = 65536 ^ off * 65536 ^ m := Nat.pow_add _ _ _
 have := guess_ok (Z := val zs) (V := val ys) (D := 65536 ^ off) (M := 65536 ^ m) (Nat.pow_pos (by omega)) (Nat.pow_pos (by omega)) h (by rw [e1]; omega)
 rw [← e3, e1, e2] at this
 rw [hg, hT]
 exact this
theorem dg_end1 {zs ys zs' : List Nat} {off m gq c z : Nat} (hD : 0 < 65536 ^ off * val ys) (hlen : off + (m + 2) < zs'.length) (hz : zs'[off + (m + 2)]?.getD 0 = z) (hc : c ≤ z)
  (hsum : val zs' + 65536 ^ off * (gq * val ys) = val zs + 65536 ^ (off + (m + 2)) * c) (hq : val zs / (65536 ^ off * val ys) ≤ gq) :
  gq = val zs / (65536 ^ off * val ys) ∧ val (zs'.set (off + (m + 2)) (z - c)) = val zs % (65536 ^ off * val ys) := by
 have h1 := val_set (xs := zs') (k := off + (m + 2)) (x := z - c) hlen
 rw [hz] at h1
 have h2 : 65536 ^ (off + (m + 2)) * (z - c) + 65536 ^ (off + (m + 2)) * c = 65536 ^ (off + (m + 2)) * z := by rw [← Nat.mul_add]; congr 1; omega
 have h3 : 65536 ^ off * (gq * val ys) = gq * (65536 ^ off * val ys) := Nat.mul_left_comm _ _ _
 rw [h3] at hsum
 generalize 65536 ^ off * val ys = W at *
 have h4 : gq * W ≤ val zs := by omega
 have h5 : gq ≤ val zs / W := (Nat.le_div_iff_mul_le hD).2 h4
 have h6 : gq = val zs / W := by omega
 refine ⟨h6, ?_⟩
 have h7 := Nat.div_add_mod (val zs) W
 rw [← h6, Nat.mul_comm] at h7
 omega
theorem dg_mid {zs ys zs' : List Nat} {off m gq c z : Nat} (hok : Ok zs') (hD : 0 < 65536 ^ off * val ys) (hlen : off + (m + 2) < zs'.length) (hz : zs'[off + (m + 2)]?.getD 0 = z) (hc : z < c) (hcb : c ≤ 65535) (htop : ∀ j, off + (m + 3) ≤ j → zs'[j]?.getD 0 = 0)
  (hsum : val zs' + 65536 ^ off * (gq * val ys) = val zs + 65536 ^ (off + (m + 2)) * c) (hq : val zs / (65536 ^ off * val ys) ≤ gq) (hq' : gq ≤ val zs / (65536 ^ off * val ys) + 1) :
  gq = val zs / (65536 ^ off * val ys) + 1 ∧ val (zs'.set (off + (m + 2)) (z + 65536 - c)) + gq * (65536 ^ off * val ys) = val zs + 65536 ^ (off + (m + 3)) := by
 have h1 := val_set (xs := zs') (k := off + (m + 2)) (x := z + 65536 - c) hlen
 rw [hz] at h1
 have h2 : 65536 ^ (off + (m + 2)) * (z + 65536 - c) + 65536 ^ (off + (m + 2)) * c = 65536 ^ (off + (m + 2)) * z + 65536 ^ (off + (m + 3)) := by
  have e : 65536 ^ (off + (m + 3)) = 65536 ^ (off + (m + 2)) * 65536 := by rw [show off + (m + 3) = (off + (m + 2)) + 1 from by omega, Nat.pow_succ]
  rw [e, ← Nat.mul_add, ← Nat.mul_add]; congr 1; omega
 have h3 : 65536 ^ off * (gq * val ys) = gq * (65536 ^ off * val ys) := Nat.mul_left_comm _ _ _
 rw [h3] at hsum
 have h8 : val (zs'.set (off + (m + 2)) (z + 65536 - c)) < 65536 ^ (off + (m + 3)) := by
  refine val_lt_of_zero (ok_set hok _ _ (by omega)) _ fun j hj => ?_
  rw [List.getElem?_set_ne (by omega)]; exact htop j hj
 have h9 : val (zs'.set (off + (m + 2)) (z + 65536 - c)) + gq * (65536 ^ off * val ys) = val zs + 65536 ^ (off + (m + 3)) := by omega
 refine ⟨?_, h9⟩
 generalize 65536 ^ off * val ys = W at *
 rcases Nat.lt_or_ge (val zs / W) gq with h | h
 ·omega
 ·exfalso
  have h10 : gq * W ≤ val zs := (Nat.le_div_iff_mul_le hD).1 h
  omega
theorem dg_end2 {zs ys zs1 zs2 : List Nat} {off m gq c z : Nat} (hok : Ok zs2) (hlen : off + (m + 2) < zs2.length) (hz : zs2[off + (m + 2)]?.getD 0 = z) (htop : ∀ j, off + (m + 3) ≤ j → zs2[j]?.getD 0 = 0)
  (hq : gq = val zs / (65536 ^ off * val ys) + 1) (h1 : val zs1 + gq * (65536 ^ off * val ys) = val zs + 65536 ^ (off + (m + 3))) (hc : c ≤ 1)
  (hsum : val zs2 + 65536 ^ (off + (m + 2)) * c = val zs1 + 65536 ^ off * val ys) :
  val (zs2.set (off + (m + 2)) ((z + c) % 65536)) = val zs % (65536 ^ off * val ys) := by
 have h2 := val_set (xs := zs2) (k := off + (m + 2)) (x := (z + c) % 65536) hlen
 rw [hz] at h2
 have hzb := getD_lt hok (off + (m + 2))
 rw [hz] at hzb
 have h3 : 65536 ^ (off + (m + 2)) * ((z + c) % 65536) + 65536 ^ (off + (m + 3)) * ((z + c) / 65536) = 65536 ^ (off + (m + 2)) * z + 65536 ^ (off + (m + 2)) * c := by
  have e : 65536 ^ (off + (m + 3)) = 65536 ^ (off + (m + 2)) * 65536 := by rw [show off + (m + 3) = (off + (m + 2)) + 1 from by omega, Nat.pow_succ]
  rw [e, Nat.mul_assoc, ← Nat.mul_add, ← Nat.mul_add, Nat.mod_add_div]
 have h8 : val (zs2.set (off + (m + 2)) ((z + c) % 65536)) < 65536 ^ (off + (m + 3)) := by
  refine val_lt_of_zero (ok_set hok _ _ (Nat.mod_lt _ (by omega))) _ fun j hj => ?_
  rw [List.getElem?_set_ne (by omega)]; exact htop j hj
 generalize 65536 ^ off * val ys = W at *
 have h7 := Nat.div_add_mod (val zs) W
 rw [hq, Nat.add_mul, Nat.one_mul, Nat.mul_comm (val zs / W) W] at h1
 have ho : (z + c) / 65536 ≤ 1 := by omega
 generalize (z + c) / 65536 = o at *
 generalize 65536 ^ (off + (m + 3)) = E at *
 rcases Nat.eq_zero_or_pos o with h | h
 ·subst h; omega
 ·obtain rfl : o = 1 := by omega
  omega
end Lb
end Go.Proofs.YtjbcalbbhomkjaaGreat
