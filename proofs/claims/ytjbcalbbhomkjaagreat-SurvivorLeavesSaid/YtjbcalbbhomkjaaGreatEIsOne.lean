import Derived.Test.YtjbcalbbhomkjaaGreatENn
namespace Go.Proofs.YtjbcalbbhomkjaaGreat
open Go.RowKit
theorem limbs_len_one {m : Nat} (h : (Lb.limbs m).length = 1) : Lb.limbs m = [m] ∧ 0 < m ∧ m < 65536 := by
 obtain ⟨x, hx⟩ := List.length_eq_one_iff.1 h
 have h1 := Lb.val_limbs m
 rw [hx] at h1
 simp [Lb.val] at h1
 subst h1
 have hok := Lb.ok_limbs x
 rw [hx] at hok
 refine ⟨hx, ?_, hok x (by simp)⟩
 rcases Nat.eq_zero_or_pos x with h0 | h0
 ·subst h0; simp at h
 ·exact h0
set_option maxRecDepth 100000 in
theorem isOne_nn {A : Option Addr} {c : Nat} {neg : Bool} {m : Nat} {w : World} (h : R16 w A (Lb.limbs m).length c (Lb.limbs m)) :
  Calls Tryz.prog 62 #[.agg #[.bool neg, .slice A (Lb.limbs m).length c]] w fun e w' => e = .returned (.bool (!neg && decide (m = 1))) ∧ Below w.heap.size w w' := by
 have hmax := h.max
 have hcap := h.cap
 have hB := hide ((Below.refl w.heap.size w).alloc (Nat.le_refl _) (.cells #[.bool neg, .slice A (Lb.limbs m).length c] 35))
 cases neg
 ·by_cases h1 : (Lb.limbs m).length = 1
  ·obtain ⟨e1, h2, h3⟩ := limbs_len_one h1
   obtain ⟨ad, rfl, hx⟩ := h.some (by omega)
   have hc := cell_alloc (hx 0 (by omega)) (.cells #[.bool false, .slice (some ad) (Lb.limbs m).length c] 35)
   rw [h1] at hc hB
   rw [h1]
   rw [e1] at hc
   simp only [List.getElem?_cons_zero, Option.getD_some] at hc
   have hz : Addr.add ad 0 = ad := by unfold Addr.add; simp
   rw [hz] at hc
   clear hx h e1 h1 hmax hcap hz
   have HM := hide (⟨h2, h3⟩ : 0 < m ∧ m < 65536)
   clear h2 h3
   by_cases hm : m = 1
   ·subst hm
    go_enter Tryz.func62, Tryz.ntmps62
    go_wp2
    go_ret
    exact ⟨rfl, hB.out⟩
   ·have hm1 : ((m : Int) == 1) = false := by rw [beq_eq_false_iff_ne]; omega
    have hm2 : decide (m = 1) = false := by simpa using hm
    rw [hm2]
    clear hm hm2
    go_enter Tryz.func62, Tryz.ntmps62
    go_wp2
    go_ret
    exact ⟨rfl, hB.out⟩
  ·have hl : (((Lb.limbs m).length : Int) == 1) = false := by rw [beq_eq_false_iff_ne]; omega
   have hm : decide (m = 1) = false := by
    simp; rintro rfl; exact h1 rfl
   rw [hm]
   clear hm h1 h
   generalize (Lb.limbs m).length = n at *
   go_enter Tryz.func62, Tryz.ntmps62
   go_wp2
   go_ret
   exact ⟨rfl, hB.out⟩
 ·clear h
  generalize (Lb.limbs m).length = n at *
  go_enter Tryz.func62, Tryz.ntmps62
  go_wp2
  go_ret
  exact ⟨rfl, hB.out⟩
end Go.Proofs.YtjbcalbbhomkjaaGreat
