import Derived.Test.YtjbcalbbhomkjaaGreatEV
import Derived.Test.YtjbcalbbhomkjaaGreatEMul2
import Derived.Test.YtjbcalbbhomkjaaGreatEGcd
import Derived.Test.YtjbcalbbhomkjaaGreatEDivMod
import Derived.Test.YtjbcalbbhomkjaaGreatECmp2
import Derived.Test.YtjbcalbbhomkjaaGreatEFromInt
namespace Go.Proofs.YtjbcalbbhomkjaaGreat
open Go.RowKit
structure Nv (neg : Bool) (m : Nat) : Prop where
 z : m = 0 → neg = false
 w : (Lb.limbs m).length ≤ 1024
theorem validB_nv {neg : Bool} {m : Nat} (h : Nv neg m) : validB neg (Lb.limbs m) = true := by
 unfold validB
 rw [decide_eq_true h.w, Bool.true_and]
 split
 ·rename_i h0
  rw [h.z (Lb.limbs_eq_nil.1 (List.eq_nil_of_length_eq_zero h0))]; rfl
 ·rename_i h0
  have h1 : m ≠ 0 := by
   rintro rfl; exact h0 rfl
  rw [bne_iff_ne]; exact Lb.limbs_top_ne h1
theorem sgn_neg {neg : Bool} {m : Nat} (h : m = 0 → neg = false) : decide (sgn neg m < 0) = neg := by
 cases neg
 ·simp [sgn]
 ·have : m ≠ 0 := fun h0 => by have := h h0; cases this
  simp [sgn]; omega
theorem sgn_abs (neg : Bool) (m : Nat) : (sgn neg m).natAbs = m := by unfold sgn; split <;> omega
theorem nv_of {neg : Bool} {m : Nat} {z : Int} (hz : sgn neg m = z) (h : m = 0 → neg = false) : decide (z < 0) = neg ∧ z.natAbs = m := by
 subst hz; exact ⟨sgn_neg h, sgn_abs neg m⟩
def TupN (w : World) (neg : Bool) (m : Nat) (e : Ending) (w' : World) : Prop :=
 ∃ A c, e = .returned (.tuple #[.agg #[.bool neg, .slice A (Lb.limbs m).length c], .int .i64 0]) ∧ R16 w' A (Lb.limbs m).length c (Lb.limbs m) ∧ (∀ ad, A = some ad → w.heap.size ≤ ad.block) ∧ Below w.heap.size w w'
def RetN (w : World) (neg : Bool) (m : Nat) (e : Ending) (w' : World) : Prop :=
 ∃ A c, e = .returned (.agg #[.bool neg, .slice A (Lb.limbs m).length c]) ∧ R16 w' A (Lb.limbs m).length c (Lb.limbs m) ∧ (∀ ad, A = some ad → w.heap.size ≤ ad.block) ∧ Below w.heap.size w w'
theorem outV_nn {w w' : World} {e : Ending} {z : Int} {ok neg : Bool} {m : Nat} (h : OutV w w' e ok z) (ho : ok = true) (hz : sgn neg m = z) (hn : Nv neg m) : TupN w neg m e w' := by
 subst ho
 unfold OutV at h
 rw [if_pos rfl] at h
 obtain ⟨h1, h2⟩ := h
 obtain ⟨e1, e2⟩ := nv_of hz hn.z
 unfold wv at h1
 rw [e1, e2] at h1
 rcases h1 with ⟨_, A, c, rfl, h3, h4⟩ | ⟨h1, _⟩
 ·exact ⟨A, c, rfl, h3, h4, h2⟩
 ·have := hn.w; omega
section
variable {A A' : Option Addr} {c c' : Nat} {n0 n1 : Bool} {m0 m1 : Nat} {w : World}
theorem Mul_nn (nr : Bool) (mr : Nat) (h : R16 w A (Lb.limbs m0).length c (Lb.limbs m0)) (h' : R16 w A' (Lb.limbs m1).length c' (Lb.limbs m1)) (h0 : Nv n0 m0) (h1 : Nv n1 m1) (hr : Nv nr mr) (hz : sgn nr mr = sgn n0 m0 * sgn n1 m1) :
  Calls Tryz.prog 98 #[.agg #[.bool n0, .slice A (Lb.limbs m0).length c], .agg #[.bool n1, .slice A' (Lb.limbs m1).length c']] w (TupN w nr mr) :=
 (Mul_any n0 n1 A A' _ _ c c' _ _ w h h').mono fun e w' ho => by
  rw [Lb.val_limbs, Lb.val_limbs] at ho
  exact outV_nn ho (by rw [validB_nv h0, validB_nv h1]; rfl) hz hr
theorem Add_nn (nr : Bool) (mr : Nat) (h : R16 w A (Lb.limbs m0).length c (Lb.limbs m0)) (h' : R16 w A' (Lb.limbs m1).length c' (Lb.limbs m1)) (h0 : Nv n0 m0) (h1 : Nv n1 m1) (hr : Nv nr mr) (hz : sgn nr mr = sgn n0 m0 + sgn n1 m1) :
  Calls Tryz.prog 128 #[.agg #[.bool n0, .slice A (Lb.limbs m0).length c], .agg #[.bool n1, .slice A' (Lb.limbs m1).length c']] w (TupN w nr mr) :=
 (Add_any n0 n1 A A' _ _ c c' _ _ w h h').mono fun e w' ho => by
  rw [Lb.val_limbs, Lb.val_limbs] at ho
  exact outV_nn ho (by rw [validB_nv h0, validB_nv h1]; rfl) hz hr
theorem Gcd_nn (h : R16 w A (Lb.limbs m0).length c (Lb.limbs m0)) (h' : R16 w A' (Lb.limbs m1).length c' (Lb.limbs m1)) (h0 : Nv n0 m0) (h1 : Nv n1 m1) :
  Calls Tryz.prog 90 #[.agg #[.bool n0, .slice A (Lb.limbs m0).length c], .agg #[.bool n1, .slice A' (Lb.limbs m1).length c']] w (TupN w false (Nat.gcd m0 m1)) :=
 (Gcd_any n0 n1 A A' _ _ c c' _ _ w h h').mono fun e w' ho => by
  rw [Lb.val_limbs, Lb.val_limbs] at ho
  refine outV_nn ho (by rw [validB_nv h0, validB_nv h1]; rfl) rfl ⟨fun _ => rfl, ?_⟩
  rcases Nat.eq_zero_or_pos m0 with e0 | e0
  ·subst e0; rw [Nat.gcd_zero_left]; exact h1.w
  ·exact Nat.le_trans (Lb.limbs_length_mono (Nat.gcd_le_left m1 e0)) h0.w
theorem Div_nn (nr : Bool) (mr : Nat) (h : R16 w A (Lb.limbs m0).length c (Lb.limbs m0)) (h' : R16 w A' (Lb.limbs m1).length c' (Lb.limbs m1)) (h0 : Nv n0 m0) (h1 : Nv n1 m1) (hm : m1 ≠ 0) (hv : mr = 0 → nr = false) (hz : sgn nr mr = (sgn n0 m0).fdiv (sgn n1 m1)) :
  Calls Tryz.prog 89 #[.agg #[.bool n0, .slice A (Lb.limbs m0).length c], .agg #[.bool n1, .slice A' (Lb.limbs m1).length c']] w fun e w' =>
   ∃ A c A' c', e = .returned (.tuple #[.agg #[.bool nr, .slice A (Lb.limbs mr).length c], wv ((sgn n0 m0).fmod (sgn n1 m1)) A' c', .int .i64 0]) ∧ R16 w' A (Lb.limbs mr).length c (Lb.limbs mr) ∧
    R16 w' A' (Lb.limbs ((sgn n0 m0).fmod (sgn n1 m1)).natAbs).length c' (Lb.limbs ((sgn n0 m0).fmod (sgn n1 m1)).natAbs) ∧ (∀ ad, A = some ad → w.heap.size ≤ ad.block) ∧ (∀ ad, A' = some ad → w.heap.size ≤ ad.block) ∧ Below w.heap.size w w' :=
 (DivMod_any n0 n1 A A' _ _ c c' _ _ w h h').mono fun e w' ho => by
  rw [Lb.val_limbs, Lb.val_limbs] at ho
  unfold OutDM at ho
  have hs : sgn n1 m1 ≠ 0 := by
   intro h0; have := sgn_abs n1 m1; rw [h0] at this; simp at this; omega
  rw [if_pos (by rw [validB_nv h0, validB_nv h1]; rfl), if_neg hs] at ho
  obtain ⟨A2, c2, A3, c3, rfl, h2, h3, h4, h5, h6⟩ := ho
  obtain ⟨e1, e2⟩ := nv_of hz hv
  rw [e2] at h2
  refine ⟨A2, c2, A3, c3, ?_, h2, h3, h4, h5, h6⟩
  have : wv ((sgn n0 m0).fdiv (sgn n1 m1)) A2 c2 = .agg #[.bool nr, .slice A2 (Lb.limbs mr).length c2] := by unfold wv; rw [e1, e2]
  rw [this]
theorem Cmp_nn (h : R16 w A (Lb.limbs m0).length c (Lb.limbs m0)) (h' : R16 w A' (Lb.limbs m1).length c' (Lb.limbs m1)) (h0 : Nv n0 m0) (h1 : Nv n1 m1) :
  Calls Tryz.prog 55 #[.agg #[.bool n0, .slice A (Lb.limbs m0).length c], .agg #[.bool n1, .slice A' (Lb.limbs m1).length c']] w fun e w' => e = .returned (.int .i64 (cmpZ (sgn n0 m0) (sgn n1 m1))) ∧ Below w.heap.size w w' :=
 (Cmp_any n0 n1 A A' _ _ c c' _ _ w h h').mono fun e w' ho => by
  rw [Lb.val_limbs, Lb.val_limbs, validB_nv h0, validB_nv h1] at ho
  exact ho
end
theorem FromInt_nn (x : Int) (w : World) (h0 : -9223372036854775808 ≤ x) (h1 : x ≤ 9223372036854775807) :
  Calls Tryz.prog 57 #[.int .i64 x] w (RetN w (decide (x < 0)) x.natAbs) :=
 (FromInt_any x w h0 h1).mono fun e w' ⟨A, c, he, h2, h3, h4⟩ => ⟨A, c, he, h2, fun ad e => by have := h3 ad e; omega, h4⟩
theorem FromInt_one (w : World) : Calls Tryz.prog 57 #[.int .i64 1] w (RetN w false 1) := FromInt_nn 1 w (by omega) (by omega)
theorem WValid_nn {A : Option Addr} {c : Nat} {neg : Bool} {m : Nat} {w : World} (h : R16 w A (Lb.limbs m).length c (Lb.limbs m)) (hn : Nv neg m) :
  Calls Tryz.prog 47 #[.agg #[.bool neg, .slice A (Lb.limbs m).length c]] w fun e w' => e = .returned (.bool true) ∧ Below w.heap.size w w' :=
 (Valid_any neg A _ c _ w h).mono fun e w' he => by rw [validB_nv hn] at he; exact he
def RetF (w : World) (neg : Bool) (m d : Nat) (e : Ending) (w' : World) : Prop :=
 ∃ A c A' c', e = .returned (.agg #[.bool neg, .slice A (Lb.limbs m).length c, .bool false, .slice A' (Lb.limbs d).length c']) ∧ R16 w' A (Lb.limbs m).length c (Lb.limbs m) ∧ R16 w' A' (Lb.limbs d).length c' (Lb.limbs d) ∧
  (∀ ad, A = some ad → w.heap.size ≤ ad.block) ∧ (∀ ad, A' = some ad → w.heap.size ≤ ad.block) ∧ Below w.heap.size w w'
def TupF (w : World) (neg : Bool) (m d : Nat) (e : Ending) (w' : World) : Prop :=
 ∃ A c A' c', e = .returned (.tuple #[.agg #[.bool neg, .slice A (Lb.limbs m).length c, .bool false, .slice A' (Lb.limbs d).length c'], .int .i64 0]) ∧ R16 w' A (Lb.limbs m).length c (Lb.limbs m) ∧ R16 w' A' (Lb.limbs d).length c' (Lb.limbs d) ∧
  (∀ ad, A = some ad → w.heap.size ≤ ad.block) ∧ (∀ ad, A' = some ad → w.heap.size ≤ ad.block) ∧ Below w.heap.size w w'
theorem nv_mk {neg : Bool} {m k : Nat} (h : m < 65536 ^ k) (hk : k ≤ 1024) (hz : m = 0 → neg = false) : Nv neg m := ⟨hz, Nat.le_trans (Lb.limbs_length_le.2 h) hk⟩
theorem mixed : Tryz.prog.follows .mixedOrders = true := by kernel_rfl
end Go.Proofs.YtjbcalbbhomkjaaGreat
