import Derived.Test.YtjbcalbbhomkjaaGreatERf
namespace Go.Proofs.YtjbcalbbhomkjaaGreat
open Go.RowKit
def zeroW : Value := .agg #[.bool false, .slice none 0 0]
def madeV (neg : Bool) (A : Option Addr) (n c : Nat) : Value :=
 if n ≤ 1024 then .tuple #[.agg #[.bool (neg && decide (0 < n)), .slice A n c], .int .i64 0] else .tuple #[zeroW, .int .i64 3]
theorem info_whole : (Tryz.prog.info? 35).map (·.size) = some 2 := by kernel_rfl
theorem load_whole {W : World} {g : Nat} {t : TypeId} {u v : Value} (h : Blk W g t #[u, v]) : (loadVar 35 ⟨g, 0, none⟩).run Tryz.prog W = .ok (.agg #[u, v]) W :=
 run_loadVar_row W g t _ _ _ _ h Tryz.underlying35 rfl info_whole
set_option maxRecDepth 100000 in
theorem made_any (neg : Bool) (A : Option Addr) (n c : Nat) (xs : List Nat) (w : World) (h : R16 w A n c xs) :
  Calls Tryz.prog 131 #[.bool neg, .slice A n c] w fun e w' => e = .returned (madeV neg A n c) ∧ Below w.heap.size w w' := by
 have hcap := h.cap
 have hmax := h.max
 clear h
 by_cases hn : n ≤ 1024
 ·by_cases h0 : n = 0
  all_goals cases neg
  all_goals
   go_enter Tryz.func131, Tryz.ntmps131
   go_wp2
   refine bodyPost_ret (results_cellTmp rfl rfl rfl (load_whole (Blk.new _ _ _))) rfl ⟨?_, (Below.refl w.heap.size w).alloc (Nat.le_refl _) _⟩
   unfold madeV
   rw [if_pos hn]
   simp [h0]
  all_goals omega
 ·cases neg
  all_goals
   go_enter Tryz.func131, Tryz.ntmps131
   go_wp2
   refine bodyPost_ret (results_cellTmp rfl rfl rfl (load_whole (Blk.new _ _ _))) rfl ⟨?_, (Below.refl w.heap.size w).alloc (Nat.le_refl _) _⟩
   unfold madeV
   rw [if_neg hn]
   rfl
def validB (neg : Bool) (xs : List Nat) : Bool := decide (xs.length ≤ 1024) && (if xs.length = 0 then !neg else xs[xs.length - 1]?.getD 0 != 0)
set_option maxRecDepth 100000 in
theorem Valid_any (neg : Bool) (A : Option Addr) (n c : Nat) (xs : List Nat) (w : World) (h : R16 w A n c xs) :
  Calls Tryz.prog 47 #[.agg #[.bool neg, .slice A n c]] w fun e w' => e = .returned (.bool (validB neg xs)) ∧ Below w.heap.size w w' := by
 have hcap := h.cap
 have hmax := h.max
 have hl := h.len
 have hB := (Below.refl w.heap.size w).alloc (Nat.le_refl _) (.cells #[.bool neg, .slice A n c] 35)
 by_cases hn : n ≤ 1024
 ·rcases n with _ | k
  ·have HB := hide hB
   have HL := Lib.hid hl
   clear h hB hl
   cases neg
   all_goals
    go_enter Tryz.func47, Tryz.ntmps47
    go_wp2
    go_ret
    refine ⟨?_, HB.out⟩
    unfold validB
    rw [HL.out]
    rfl
  ·obtain ⟨ad, rfl, hx⟩ := h.some (by omega)
   have hk := cell_alloc (hx k (by omega)) (.cells #[.bool neg, .slice (some ad) (k + 1) c] 35)
   have HB := hide hB
   have HL := Lib.hid hl
   have hxb := Lb.getD_lt h.ok k
   clear h hB hl hx
   generalize hz : xs[k]?.getD 0 = z at *
   have hv : validB neg xs = (z != 0) := by
    unfold validB
    rw [HL.out, if_neg (by omega), Nat.add_sub_cancel, hz]
    simp [hn]
   rw [hv]
   have HZ := Lib.hid hz
   clear hz hv
   by_cases h0 : z = 0
   ·subst h0
    cases neg
    all_goals
     go_enter Tryz.func47, Tryz.ntmps47
     go_wp2
     go_ret
     exact ⟨rfl, HB.out⟩
   ·have hz1 : ((z : Int) != 0) = true := by rw [bne_iff_ne]; omega
    have hz2 : (z != 0) = true := by rw [bne_iff_ne]; exact h0
    rw [hz2]
    clear hz2 h0
    cases neg
    all_goals
     go_enter Tryz.func47, Tryz.ntmps47
     go_wp2
     go_ret
     exact ⟨rfl, HB.out⟩
 ·have HB := hide hB
  have HL := Lib.hid hl
  clear h hB hl
  have hv : validB neg xs = false := by
   unfold validB
   rw [HL.out]
   simp [hn]
  rw [hv]
  clear hv
  cases neg
  all_goals
   go_enter Tryz.func47, Tryz.ntmps47
   go_wp2
   go_ret
   exact ⟨rfl, HB.out⟩
end Go.Proofs.YtjbcalbbhomkjaaGreat
