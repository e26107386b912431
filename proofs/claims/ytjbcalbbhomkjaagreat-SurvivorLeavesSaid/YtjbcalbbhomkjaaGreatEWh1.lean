import Derived.Test.YtjbcalbbhomkjaaGreatEMem
namespace Go.Proofs.YtjbcalbbhomkjaaGreat
open Go.RowKit
set_option maxHeartbeats 400000 in
theorem trimmed_any (A : Option Addr) (n c : Nat) (xs : List Nat) (w : World) (h : R16 w A n c xs) :
  Calls Tryz.prog 99 #[.slice A n c] w fun e w' => e = .returned (.slice A (Lb.trim xs).length c) ∧ w = w' := by
 have hcap := h.cap
 have hmax := h.max
 go_enter Tryz.func99, Tryz.ntmps99
 go_wp2
 go_loop [0] (fun l => ∃ k, k ≤ n ∧ l = .slice A k c ∧ Lb.trim xs = Lb.trim (xs.take k)) (fun l => lenOf l)
 case atStart => exact ⟨n, Nat.le_refl _, rfl, by rw [List.take_of_length_le (by have := h.len; omega)]⟩
 case round =>
  obtain ⟨k, hk, rfl, ht⟩ := hrel
  have HT := Lib.hid ht; clear ht
  by_cases hk0 : k = 0
  ·subst hk0
   go_wp2
   go_ret
   exact ⟨ret_slice (by rw [HT.out]; simp [Lb.trim]), rfl⟩
  ·obtain ⟨m, rfl⟩ : ∃ m, k = m + 1 := ⟨k - 1, by omega⟩
   obtain ⟨ad, rfl, hcell⟩ := h.some (by omega)
   have hcm := hcell m (by omega)
   have hl := h.len
   have HS : Hid (xs.take (m + 1) = xs.take m ++ [xs[m]?.getD 0]) := Lb.take_succ_getD xs m (by omega)
   have HL : Hid ((xs.take (m + 1)).length = m + 1) := by show _ = _; rw [List.length_take]; omega
   clear hcell h hl
   by_cases hz : xs[m]?.getD 0 = 0
   ·have hz' : ((((xs[m]?.getD 0 : Nat) : Int)) == 0) = true := by rw [hz]; rfl
    have HZ := Lib.hid hz; clear hz
    go_wp2
    go_round
    case rel => exact ⟨m, by omega, rfl, by rw [HT.out, HS.out, HZ.out, Lb.trim_snoc_zero]⟩
    case measure => simp [lenOf]
   ·have hz' : ((((xs[m]?.getD 0 : Nat) : Int)) == 0) = false := by rw [beq_eq_false_iff_ne]; omega
    have HZ := Lib.hid hz; clear hz
    go_wp2
    go_ret
    refine ⟨ret_slice ?_, rfl⟩
    rw [HT.out, HS.out, Lb.norm_snoc HZ.out, ← HS.out, HL.out]
theorem sign_any (b : Bool) (w : World) :
  Calls Tryz.prog 96 #[.bool b] w fun e w' => e = .returned (.int .i64 (if b then -1 else 1)) ∧ w = w' := by
 cases b
 all_goals
  go_enter Tryz.func96, Tryz.ntmps96
  go_wp2
  go_ret
  exact ⟨rfl, rfl⟩
end Go.Proofs.YtjbcalbbhomkjaaGreat
