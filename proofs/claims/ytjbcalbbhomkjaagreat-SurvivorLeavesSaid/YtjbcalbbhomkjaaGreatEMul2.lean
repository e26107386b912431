import Derived.Test.YtjbcalbbhomkjaaGreatEAdd2
import Derived.Test.YtjbcalbbhomkjaaGreatEMul
namespace Go.Proofs.YtjbcalbbhomkjaaGreat
open Go.RowKit
theorem sgn_mul (n0 n1 : Bool) (a b : Nat) : sgn n0 a * sgn n1 b = sgn (!n0 == n1) (a * b) := by
 cases n0 <;> cases n1 <;> simp [sgn, Int.neg_mul, Int.mul_neg]
set_option maxRecDepth 100000 in
set_option maxHeartbeats 4000000 in
theorem Mul_any (n0 n1 : Bool) (A A' : Option Addr) (n n' c c' : Nat) (xs ys : List Nat) (w : World) (h : R16 w A n c xs) (h' : R16 w A' n' c' ys) :
  Calls Tryz.prog 98 #[.agg #[.bool n0, .slice A n c], .agg #[.bool n1, .slice A' n' c']] w fun e w' => OutV w w' e (validB n0 xs && validB n1 ys) (sgn n0 (Lb.val xs) * sgn n1 (Lb.val ys)) := by
 obtain ⟨W0, hW0⟩ : ∃ W0, Ent3 w W0 n0 n1 A A' n n' c c' := ⟨_, rfl⟩
 have hsz := ent3_size hW0
 have HT := hide (ent3_two hW0)
 have HO := hide (ent3_out hW0)
 have HA := hide (ent3_args hW0)
 have HB := hide (ent3_below hW0)
 have HH := hide (h.below HB.out (Nat.le_refl _))
 have HH' := hide (h'.below HB.out (Nat.le_refl _))
 have HW0 := Lib.hid hW0
 have HV0 := hide (valid_limbs (neg := n0) h.ok)
 have HV1 := hide (valid_limbs (neg := n1) h'.ok)
 have hl := h.len
 have hl' := h'.len
 have HL := Lib.hid hl
 have HL' := Lib.hid hl'
 clear hW0 h h' hl hl'
 go_enter Tryz.func98, Tryz.ntmps98
 cases hv : validB n0 xs && validB n1 ys
 ·have HV := Lib.hid hv
  clear hv
  go_wp2_with (go_at_call 95; rw [← HW0.out]; refine (valid2_any _ _ _ _ _ _ _ _ _ _ _ xs ys _ HA.out HH.out HH'.out).mono ?_; rintro e w1 ⟨rfl, hb⟩; rw [HV.out]; have c1 := (HO.out.below hb (by omega)).cell 0; have c2 := (HO.out.below hb (by omega)).cell 1; have f1 := (HO.out.below hb (by omega)).frozen 0; have f2 := (HO.out.below hb (by omega)).frozen 1; have O1 := hide (HO.out.below hb (by omega)); have B1 := hide (HB.out.trans (hb.mono (by omega))); clear hb; simp only [List.getElem?_toArray, List.getElem?_cons_zero, List.getElem?_cons_succ] at c1 c2)
  refine bodyPost_ret (results_cellTmp rfl rfl rfl (load_whole ((O1.out.set_ 0 _).set_ 1 _))) rfl ?_
  exact ⟨rfl, (B1.out.setCell (by simp; omega) _).setCell (by simp; omega) _⟩
 ·have hv2 := hv
  simp only [Bool.and_eq_true] at hv2
  obtain ⟨e0, l0, _⟩ := HV0.out hv2.1
  obtain ⟨e1, l1, _⟩ := HV1.out hv2.2
  obtain ⟨a, rfl⟩ : ∃ a, xs = Lb.limbs a := ⟨_, e0⟩
  obtain ⟨b, rfl⟩ : ∃ b, ys = Lb.limbs b := ⟨_, e1⟩
  rw [HL.out] at l0
  rw [HL'.out] at l1
  have HV := Lib.hid hv
  clear hv hv2 e0 e1
  rw [Lb.val_limbs, Lb.val_limbs]
  rw [sgn_mul]
  go_wp2_with (go_at_call 95; rw [← HW0.out]; refine (valid2_any _ _ _ _ _ _ _ _ _ _ _ (Lb.limbs a) (Lb.limbs b) _ HA.out HH.out HH'.out).mono ?_; rintro e w1 ⟨rfl, hb⟩; rw [HV.out])
  have hS : Two w.heap.size n0 (.slice A n c) n1 (.slice A' n' c') w1.drew := HT.out.below hb.drew (by omega)
  have hO := HO.out.below hb (by omega)
  have hX := HH.out.below hb.drew (Nat.le_refl _)
  have hY := HH'.out.below hb.drew (Nat.le_refl _)
  have hBs : w.heap.size + 2 ≤ w1.drew.heap.size := by have := hb.size; show _ ≤ w1.heap.size; omega
  have hBs' : w.heap.size + 3 ≤ w1.drew.heap.size := by have := hb.size; show _ ≤ w1.heap.size; omega
  have hBw : w.heap.size ≤ w1.drew.heap.size := by omega
  have hBl : Below w.heap.size w w1.drew := (HB.out.trans (hb.mono (by omega))).drew
  refine wp_region_heldN (Two w.heap.size n0 (.slice A n c) n1 (.slice A' n' c')) 15 #[false, false, false, false, false, false, false, false, false, false, false, false, false, false, false] rfl rfl (by kernel_rfl) ?_
  refine takeH 0 12 rfl rfl (by kernel_rfl) (by kernel_rfl) (by kernel_rfl) rfl hS (by rintro w9 ⟨s1, s2, s3, s4⟩; go_simp; with_reducible rfl) ?_
  simp only [List.setIfInBounds_toArray, List.set_cons_zero, List.set_cons_succ]
  refine takeH 1 13 rfl rfl (by kernel_rfl) (by kernel_rfl) (by kernel_rfl) rfl hS (by rintro w9 ⟨s1, s2, s3, s4⟩; go_simp; with_reducible rfl) ?_
  simp only [List.setIfInBounds_toArray, List.set_cons_zero, List.set_cons_succ]
  refine takeH 2 14 rfl rfl (by kernel_rfl) (by kernel_rfl) (by kernel_rfl) rfl hS (by rintro w9 ⟨s1, s2, s3, s4⟩; go_simp; with_reducible rfl) ?_
  simp only [List.setIfInBounds_toArray, List.set_cons_zero, List.set_cons_succ]
  refine takeH 3 15 rfl rfl (by kernel_rfl) (by kernel_rfl) (by kernel_rfl) rfl hS (by rintro w9 ⟨s1, s2, s3, s4⟩; go_simp; with_reducible rfl) ?_
  simp only [List.setIfInBounds_toArray, List.set_cons_zero, List.set_cons_succ]
  refine takeH 4 16 rfl rfl (by kernel_rfl) (by kernel_rfl) (by kernel_rfl) rfl hS (by rintro w9 ⟨s1, s2, s3, s4⟩; go_simp; with_reducible rfl) ?_
  simp only [List.setIfInBounds_toArray, List.set_cons_zero, List.set_cons_succ]
  refine takeH 5 17 rfl rfl (by kernel_rfl) (by kernel_rfl) (by kernel_rfl) rfl hS (by rintro w9 ⟨s1, s2, s3, s4⟩; go_simp; with_reducible rfl) ?_
  simp only [List.setIfInBounds_toArray, List.set_cons_zero, List.set_cons_succ]
  refine takeH 6 18 rfl rfl (by kernel_rfl) (by kernel_rfl) (by kernel_rfl) rfl hS (by rintro w9 ⟨s1, s2, s3, s4⟩; go_simp; with_reducible rfl) ?_
  simp only [List.setIfInBounds_toArray, List.set_cons_zero, List.set_cons_succ]
  refine takeH 7 19 rfl rfl (by kernel_rfl) (by kernel_rfl) (by kernel_rfl) rfl hS (by rintro w9 ⟨s1, s2, s3, s4⟩; go_simp; with_reducible rfl) ?_
  simp only [List.setIfInBounds_toArray, List.set_cons_zero, List.set_cons_succ]
  refine takeH 8 20 rfl rfl (by kernel_rfl) (by kernel_rfl) (by kernel_rfl) rfl hS (by rintro w9 ⟨s1, s2, s3, s4⟩; go_simp; with_reducible rfl) ?_
  simp only [List.setIfInBounds_toArray, List.set_cons_zero, List.set_cons_succ]
  refine onlyH 9 rfl (by kernel_rfl) rfl ?_
  go_simp
  refine (mul_any _ _ _ _ _ _ a b _ hX hY (by omega) (by omega)).mono ?_
  rintro e w2 ⟨A2, d2, rfl, h2, h3, h4⟩
  have hS2 := hS.below h4 hBs
  have hO2 := hO.drew.below h4 hO.lt
  refine ⟨hS2, onlyH 10 rfl (by kernel_rfl) rfl ?_⟩
  go_simp
  refine (made_any _ _ _ _ (Lb.limbs (a * b)) _ h2).mono ?_
  rintro e w3 ⟨rfl, hb3⟩
  have hS3 := hS2.below hb3 (Nat.le_trans hBs h4.size)
  have hO3 := hO2.below hb3 (Nat.lt_of_lt_of_le hO.lt h4.size)
  have HM := hide (fun u v => sum_end (neg := !n0 == n1) h2 (fun ad e => Nat.le_trans hBs' (h3 ad e)) (hBl.trans (h4.mono hBw)) hb3 u v)
  obtain ⟨x, A3, n3, d3, st, hF⟩ := madeV_form (!n0 == n1) A2 (Lb.limbs (a * b)).length d2
  rw [hF] at HM ⊢
  clear hF h2 h3 h4 hb3
  refine ⟨hS3, ?_⟩
  refine takeH 11 23 rfl rfl (by kernel_rfl) (by kernel_rfl) (by kernel_rfl) rfl hS3 (by rintro w9 ⟨s1, s2, s3, s4⟩; go_simp; with_reducible rfl) ?_
  simp only [List.setIfInBounds_toArray, List.set_cons_zero, List.set_cons_succ]
  refine takeH 12 24 rfl rfl (by kernel_rfl) (by kernel_rfl) (by kernel_rfl) rfl hS3 (by rintro w9 ⟨s1, s2, s3, s4⟩; go_simp; with_reducible rfl) ?_
  simp only [List.setIfInBounds_toArray, List.set_cons_zero, List.set_cons_succ]
  have hc1 := hO3.cell 0
  have hc2 := hO3.cell 1
  have hf1 := hO3.frozen 0
  have hf2 := hO3.frozen 1
  have hO4 := (hO3.set_ 0 (.bool x)).set_ 1 (.slice A3 n3 d3)
  have hS4 := (hS3.far 0 (.bool x)).far 1 (.slice A3 n3 d3)
  have HO4 := hide hO4
  have HS4 := hide hS4
  clear hO4 hS4
  simp only [List.getElem?_toArray, List.getElem?_cons_zero, List.getElem?_cons_succ] at hc1 hc2
  refine onlyH 13 rfl (by kernel_rfl) rfl ?_
  go_simp
  refine ⟨HS4.out, ?_⟩
  refine takeH 14 5 rfl rfl (by kernel_rfl) (by kernel_rfl) (by kernel_rfl) rfl HS4.out (by rintro w9 ⟨s1, s2, s3, s4⟩; go_simp; with_reducible rfl) ?_
  simp only [List.setIfInBounds_toArray, List.set_cons_zero, List.set_cons_succ]
  refine wpAnyH_done (by kernel_rfl) (onlyN_intro ?_) _
  go_wp2
  refine bodyPost_ret (results_cellTmp rfl rfl rfl (load_whole HO4.out)) rfl ?_
  exact HM.out _ _
end Go.Proofs.YtjbcalbbhomkjaaGreat
