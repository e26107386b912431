import Derived.Test.YtjbcalbbhomkjaaGreatEAdd2
import Derived.Test.YtjbcalbbhomkjaaGreatEDiv
namespace Go.Proofs.YtjbcalbbhomkjaaGreat
open Go.RowKit
theorem R16.uniq {w : World} {A : Option Addr} {n c : Nat} {xs ys : List Nat} (h : R16 w A n c xs) (h' : R16 w A n c ys) : xs = ys := by
 refine List.ext_getElem (by rw [h.len, h'.len]) fun j hj hj' => ?_
 have hn : j < n := by rw [← h.len]; exact hj
 obtain ⟨ad, e, hx⟩ := h.some (by omega)
 obtain ⟨ad', e', hy⟩ := h'.some (by omega)
 rw [e] at e'
 injection e' with e'
 subst e'
 have := (hx j hn).symm.trans (hy j hn)
 rw [List.getElem?_eq_getElem hj, List.getElem?_eq_getElem hj'] at this
 simp at this
 omega
open Classical in
noncomputable def numAt (v : Value) (w : World) : Nat := if h : ∃ b A n c, v = .slice A n c ∧ R16 w A n c (Lb.limbs b) then h.choose else 0
theorem numAt_eq {w : World} {A : Option Addr} {n c b : Nat} (h : R16 w A n c (Lb.limbs b)) : numAt (.slice A n c) w = b := by
 have hex : ∃ b A' n' c', Value.slice A n c = .slice A' n' c' ∧ R16 w A' n' c' (Lb.limbs b) := ⟨b, A, n, c, rfl, h⟩
 unfold numAt
 rw [dif_pos hex]
 obtain ⟨A', n', c', e, h2⟩ := hex.choose_spec
 injection e with e1 e2 e3
 subst e1 e2 e3
 exact Lb.limbs_inj (h2.uniq h)
structure GcdI (w wr : World) (a b : Nat) (A : Option Addr) (n c : Nat) (A' : Option Addr) (n' c' : Nat) (p q : Nat) : Prop where
 x : R16 wr A n c (Lb.limbs p)
 y : R16 wr A' n' c' (Lb.limbs q)
 gcd : Nat.gcd p q = Nat.gcd a b
 n : n ≤ 1024
 n' : n' ≤ 1024
 fx : ∀ ad, A = some ad → w.heap.size + 3 ≤ ad.block
 fy : ∀ ad, A' = some ad → w.heap.size + 3 ≤ ad.block
 below : Below w.heap.size w wr
 out : Blk wr (w.heap.size + 1 + 1) 35 #[.bool false, .slice none 0 0]
set_option maxRecDepth 100000 in
set_option maxHeartbeats 4000000 in
theorem Gcd_any (n0 n1 : Bool) (A A' : Option Addr) (n n' c c' : Nat) (xs ys : List Nat) (w : World) (h : R16 w A n c xs) (h' : R16 w A' n' c' ys) :
  Calls Tryz.prog 90 #[.agg #[.bool n0, .slice A n c], .agg #[.bool n1, .slice A' n' c']] w fun e w' => OutV w w' e (validB n0 xs && validB n1 ys) ((Nat.gcd (Lb.val xs) (Lb.val ys) : Nat) : Int) := by
 obtain ⟨W0, hW0⟩ : ∃ W0, Ent3 w W0 n0 n1 A A' n n' c c' := ⟨_, rfl⟩
 have hsz := ent3_size hW0
 have HT := hide (ent3_two hW0)
 have HO := hide (ent3_out hW0)
 have HA := hide (ent3_args hW0)
 have HB := hide (ent3_below hW0)
 have HH := hide (h.below HB.out (Nat.le_refl _))
 have HH' := hide (h'.below HB.out (Nat.le_refl _))
 have HW0 := Lib.hid hW0
 have HV0 := hide (valid_limbs (neg := n0) h.ok)
 have HV1 := hide (valid_limbs (neg := n1) h'.ok)
 have hl := h.len
 have hl' := h'.len
 have HL := Lib.hid hl
 have HL' := Lib.hid hl'
 clear hW0 h h' hl hl'
 go_enter Tryz.func90, Tryz.ntmps90
 cases hv : validB n0 xs && validB n1 ys
 ·have HV := Lib.hid hv
  clear hv
  go_wp2_with (go_at_call 95; rw [← HW0.out]; refine (valid2_any _ _ _ _ _ _ _ _ _ _ _ xs ys _ HA.out HH.out HH'.out).mono ?_; rintro e w1 ⟨rfl, hb⟩; rw [HV.out]; have c1 := (HO.out.below hb (by omega)).cell 0; have c2 := (HO.out.below hb (by omega)).cell 1; have f1 := (HO.out.below hb (by omega)).frozen 0; have f2 := (HO.out.below hb (by omega)).frozen 1; have O1 := hide (HO.out.below hb (by omega)); have B1 := hide (HB.out.trans (hb.mono (by omega))); clear hb; simp only [List.getElem?_toArray, List.getElem?_cons_zero, List.getElem?_cons_succ] at c1 c2)
  refine bodyPost_ret (results_cellTmp rfl rfl rfl (load_whole ((O1.out.set_ 0 _).set_ 1 _))) rfl ?_
  exact ⟨rfl, (B1.out.setCell (by simp; omega) _).setCell (by simp; omega) _⟩
 ·have hv2 := hv
  simp only [Bool.and_eq_true] at hv2
  obtain ⟨e0, l0, _⟩ := HV0.out hv2.1
  obtain ⟨e1, l1, _⟩ := HV1.out hv2.2
  obtain ⟨a, rfl⟩ : ∃ a, xs = Lb.limbs a := ⟨_, e0⟩
  obtain ⟨b, rfl⟩ : ∃ b, ys = Lb.limbs b := ⟨_, e1⟩
  rw [HL.out] at l0
  rw [HL'.out] at l1
  have HV := Lib.hid hv
  clear hv hv2 e0 e1
  rw [Lb.val_limbs, Lb.val_limbs]
  go_wp2_with (go_at_call 95; rw [← HW0.out]; refine (valid2_any _ _ _ _ _ _ _ _ _ _ _ (Lb.limbs a) (Lb.limbs b) _ HA.out HH.out HH'.out).mono ?_; rintro e w1 ⟨rfl, hb⟩; rw [HV.out])
  have hS : Two w.heap.size n0 (.slice A n c) n1 (.slice A' n' c') w1.drew := HT.out.below hb.drew (by omega)
  have hO := (HO.out.below hb (by omega)).drew
  have hX := HH.out.below hb.drew (Nat.le_refl _)
  have hY := HH'.out.below hb.drew (Nat.le_refl _)
  have hBs : w.heap.size + 2 ≤ w1.drew.heap.size := by have := hb.size; show _ ≤ w1.heap.size; omega
  have hBs' : w.heap.size + 3 ≤ w1.drew.heap.size := by have := hb.size; show _ ≤ w1.heap.size; omega
  have hBw : w.heap.size ≤ w1.drew.heap.size := by omega
  have hBl : Below w.heap.size w w1.drew := (HB.out.trans (hb.mono (by omega))).drew
  refine wp_region_heldN (Two w.heap.size n0 (.slice A n c) n1 (.slice A' n' c')) 8 #[false, false, false, false, false, false, false, false] rfl rfl (by kernel_rfl) ?_
  refine takeH 0 16 rfl rfl (by kernel_rfl) (by kernel_rfl) (by kernel_rfl) rfl hS (by rintro w9 ⟨s1, s2, s3, s4⟩; go_simp; with_reducible rfl) ?_
  simp only [List.setIfInBounds_toArray, List.set_cons_zero, List.set_cons_succ]
  refine takeH 1 17 rfl rfl (by kernel_rfl) (by kernel_rfl) (by kernel_rfl) rfl hS (by rintro w9 ⟨s1, s2, s3, s4⟩; go_simp; with_reducible rfl) ?_
  simp only [List.setIfInBounds_toArray, List.set_cons_zero, List.set_cons_succ]
  refine takeH 3 19 rfl rfl (by kernel_rfl) (by kernel_rfl) (by kernel_rfl) rfl hS (by rintro w9 ⟨s1, s2, s3, s4⟩; go_simp; with_reducible rfl) ?_
  simp only [List.setIfInBounds_toArray, List.set_cons_zero, List.set_cons_succ]
  refine takeH 4 20 rfl rfl (by kernel_rfl) (by kernel_rfl) (by kernel_rfl) rfl hS (by rintro w9 ⟨s1, s2, s3, s4⟩; go_simp; with_reducible rfl) ?_
  simp only [List.setIfInBounds_toArray, List.set_cons_zero, List.set_cons_succ]
  refine onlyH 2 rfl (by kernel_rfl) rfl ?_
  go_simp
  refine (clone16_any _ _ _ (Lb.limbs a) _ hX (by omega)).mono ?_
  rintro e w2 ⟨A2, d2, rfl, h2, h3, h4⟩
  have hS2 := hS.below h4 hBs
  refine ⟨hS2, onlyH 5 rfl (by kernel_rfl) rfl ?_⟩
  go_simp
  refine (clone16_any _ _ _ (Lb.limbs b) _ (hY.below h4 (Nat.le_refl _)) (by omega)).mono ?_
  rintro e w3 ⟨A3, d3, rfl, h5, h6, h7⟩
  have hS3 := hS2.below h7 (Nat.le_trans hBs h4.size)
  refine ⟨hS3, ?_⟩
  refine takeH 6 6 rfl rfl (by kernel_rfl) (by kernel_rfl) (by kernel_rfl) rfl hS3 (by rintro w9 ⟨s1, s2, s3, s4⟩; go_simp; with_reducible rfl) ?_
  simp only [List.setIfInBounds_toArray, List.set_cons_zero, List.set_cons_succ]
  refine takeH 7 7 rfl rfl (by kernel_rfl) (by kernel_rfl) (by kernel_rfl) rfl hS3 (by rintro w9 ⟨s1, s2, s3, s4⟩; go_simp; with_reducible rfl) ?_
  simp only [List.setIfInBounds_toArray, List.set_cons_zero, List.set_cons_succ]
  refine wpAnyH_done (by kernel_rfl) (onlyN_intro ?_) _
  have hI0 : GcdI w w3 a b A2 n d2 A3 n' d3 a b := ⟨h2.below h7 (Nat.le_refl _), h5, rfl, l0, l1, fun ad e => Nat.le_trans hBs' (h3 ad e), fun ad e => Nat.le_trans hBs' (Nat.le_trans h4.size (h6 ad e)), (hBl.trans (h4.mono hBw)).trans (h7.mono (Nat.le_trans hBw h4.size)), (hO.below h4 hO.lt).below h7 (Nat.lt_of_lt_of_le hO.lt h4.size)⟩
  have HI0 := hide hI0
  clear hI0 h2 h3 h4 h5 h6 h7 hS hS2 hS3 hO hX hY hBs hBs' hBw hBl hb
  go_wp2
  go_loopw [6, 7] (fun x y wr => ∃ A n c A' n' c' p q, x = .slice A n c ∧ y = .slice A' n' c' ∧ GcdI w wr a b A n c A' n' c' p q) (fun _ y wr => numAt y wr)
  case atStart => exact ⟨_, _, _, _, _, _, _, _, rfl, rfl, HI0.out⟩
  case round =>
   obtain ⟨A4, n4, c4, A5, n5, c5, p, q, rfl, rfl, hI⟩ := hrel
   have hm := numAt_eq hI.y
   have hl5 := hI.y.len
   have hn4 := hI.n
   have hn5 := hI.n'
   have HI := hide hI
   have HM := Lib.hid hm
   by_cases hq : q = 0
   ·subst hq
    have h0 : n5 = 0 := by rw [← hl5]; rfl
    subst h0
    have c1 := hI.out.cell 0
    have c2 := hI.out.cell 1
    have f1 := hI.out.frozen 0
    have f2 := hI.out.frozen 1
    clear hI hm hl5
    simp only [List.getElem?_toArray, List.getElem?_cons_zero, List.getElem?_cons_succ] at c1 c2
    go_wp2
    refine bodyPost_ret (results_cellTmp rfl rfl rfl (load_whole ((HI.out.out.set_ 0 _).set_ 1 _))) rfl ?_
    have hg : p = Nat.gcd a b := by have := HI.out.gcd; rw [Nat.gcd_zero_right] at this; exact this
    have hl4 := HI.out.x.len
    have hx := HI.out.x
    rw [← hl4] at hx
    have hgf := HI.out.fx
    subst hg
    unfold OutV
    rw [if_pos rfl]
    refine ⟨.inl ⟨?_, A4, c4, ?_, ?_, fun ad e => ?_⟩, (HI.out.below.setCell (by simp; omega) _).setCell (by simp; omega) _⟩
    ·rw [Int.natAbs_natCast, hl4]; exact hn4
    ·unfold wv
     rw [Int.natAbs_natCast, hl4, show decide (((Nat.gcd a b : Nat) : Int) < 0) = false from by simp]
     rfl
    ·rw [Int.natAbs_natCast]
     exact (hx.far _ _ (fun ad e => by have := hgf ad e; simp; omega)).far _ _ (fun ad e => by have := hgf ad e; simp; omega)
    ·have := hgf ad e; omega
   ·have hn0 : 0 < n5 := by
     rcases Nat.eq_zero_or_pos n5 with h0 | h0
     ·exact absurd (Lb.limbs_eq_nil.1 (List.eq_nil_of_length_eq_zero (hl5.trans h0))) hq
     ·exact h0
    clear hI hm hl5
    go_wp2_with (go_at_call 124; refine (div_any _ _ _ _ _ _ p q _ HI.out.x HI.out.y hq (by omega) (by omega)).mono ?_; rintro e w4 ⟨A6, d6, A7, d7, rfl, k1, k2, k3, k4, k5⟩)
    have hlq := HI.out.y.len
    have hsz4 := HI.out.out.lt
    have hlt : p % q < q := Nat.mod_lt _ (by omega)
    have hgI : GcdI w w4 a b A5 n5 c5 A7 (Lb.limbs (p % q)).length d7 q (p % q) := by
     refine ⟨HI.out.y.below k5 (Nat.le_refl _), k2, ?_, hn5, ?_, HI.out.fy, fun ad e => Nat.le_trans (by omega) (k4 ad e), HI.out.below.trans (k5.mono (by omega)), HI.out.out.below k5 hsz4⟩
     ·rw [← HI.out.gcd, Nat.gcd_comm q, ← Nat.gcd_rec, Nat.gcd_comm]
     ·exact Nat.le_trans (Lb.limbs_length_mono (Nat.le_of_lt hlt)) (by omega)
    go_roundw
    case rel => exact ⟨_, _, _, _, _, _, _, _, rfl, rfl, hgI⟩
    case measure => rw [numAt_eq k2, HM.out]; exact hlt
end Go.Proofs.YtjbcalbbhomkjaaGreat
