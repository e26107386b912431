import Derived.Test.YtjbcalbbhomkjaaGreatEAdd2
namespace Go.Proofs.YtjbcalbbhomkjaaGreat
open Go.RowKit
def Ent2 (w W0 : World) (n0 n1 : Bool) (A A' : Option Addr) (n n' c c' : Nat) : Prop :=
 W0 = ((w.alloc (.cells #[.bool n0, .slice A n c] 35)).alloc (.cells #[.bool n1, .slice A' n' c'] 35)).alloc (.cells #[.bool n0, .slice A n c, .bool n1, .slice A' n' c'] 35)
theorem ent2_size {w W0 : World} {n0 n1 : Bool} {A A' : Option Addr} {n n' c c' : Nat} (h : Ent2 w W0 n0 n1 A A' n n' c c') : W0.heap.size = w.heap.size + 1 + 1 + 1 := by rw [h]; simp
theorem ent2_two {w W0 : World} {n0 n1 : Bool} {A A' : Option Addr} {n n' c c' : Nat} (h : Ent2 w W0 n0 n1 A A' n n' c c') : Two w.heap.size n0 (.slice A n c) n1 (.slice A' n' c') W0 := by
 have b1 := ((Blk.new w 35 #[.bool n0, .slice A n c]).alloc (.cells #[.bool n1, .slice A' n' c'] 35)).alloc (.cells #[.bool n0, .slice A n c, .bool n1, .slice A' n' c'] 35)
 have b2 := (Blk.new (w.alloc (.cells #[.bool n0, .slice A n c] 35)) 35 #[.bool n1, .slice A' n' c']).alloc (.cells #[.bool n0, .slice A n c, .bool n1, .slice A' n' c'] 35)
 rw [World.size_alloc] at b2
 unfold Ent2 at h
 rw [← h] at b1 b2
 exact ⟨by rw [b1.cell]; rfl, by rw [b1.cell]; rfl, by rw [b2.cell]; rfl, by rw [b2.cell]; rfl⟩
theorem ent2_args {w W0 : World} {n0 n1 : Bool} {A A' : Option Addr} {n n' c c' : Nat} (h : Ent2 w W0 n0 n1 A A' n n' c c') : Blk W0 (w.heap.size + 1 + 1) 35 #[.bool n0, .slice A n c, .bool n1, .slice A' n' c'] := by
 have b4 := Blk.new ((w.alloc (.cells #[.bool n0, .slice A n c] 35)).alloc (.cells #[.bool n1, .slice A' n' c'] 35)) 35 #[.bool n0, .slice A n c, .bool n1, .slice A' n' c']
 rw [World.size_alloc, World.size_alloc] at b4
 unfold Ent2 at h
 rw [← h] at b4
 exact b4
theorem ent2_below {w W0 : World} {n0 n1 : Bool} {A A' : Option Addr} {n n' c c' : Nat} (h : Ent2 w W0 n0 n1 A A' n n' c c') : Below w.heap.size w W0 := by
 rw [h]
 exact (((Below.refl w.heap.size w).alloc (Nat.le_refl _) _).alloc (by simp) _).alloc (by simp; omega) _
def cmpZ (x y : Int) : Int := if x < y then -1 else if x = y then 0 else 1
theorem cmpZ_pos (a b : Nat) : cmpZ (sgn false a) (sgn false b) = cmpN a b := by simp [cmpZ, cmpN, sgn, Int.ofNat_inj]
theorem cmpZ_neg (a b : Nat) : cmpZ (sgn true a) (sgn true b) = cmpN b a := by
 simp only [cmpZ, cmpN, sgn, if_true]
 by_cases h : b < a
 ·rw [if_pos (by omega), if_pos h]
 ·rw [if_neg (by omega), if_neg h]
  by_cases h2 : a = b
  ·rw [if_pos (by omega), if_pos h2.symm]
  ·rw [if_neg (by omega), if_neg (fun e => h2 e.symm)]
theorem cmpZ_np {a b : Nat} (h : a = 0 → True = False) : cmpZ (sgn true a) (sgn false b) = -1 := by
 have : a ≠ 0 := fun e => by have := h e; simp at this
 simp only [cmpZ, sgn, if_true]
 rw [if_pos (by simp; omega)]
theorem cmpZ_pn {a b : Nat} (h : b = 0 → True = False) : cmpZ (sgn false a) (sgn true b) = 1 := by
 have : b ≠ 0 := fun e => by have := h e; simp at this
 simp only [cmpZ, sgn, if_true]
 rw [if_neg (by simp <;> omega), if_neg (by simp <;> omega)]
set_option maxRecDepth 100000 in
set_option maxHeartbeats 4000000 in
theorem Cmp_any (n0 n1 : Bool) (A A' : Option Addr) (n n' c c' : Nat) (xs ys : List Nat) (w : World) (h : R16 w A n c xs) (h' : R16 w A' n' c' ys) :
  Calls Tryz.prog 55 #[.agg #[.bool n0, .slice A n c], .agg #[.bool n1, .slice A' n' c']] w fun e w' =>
   e = .returned (.int .i64 (bif validB n0 xs && validB n1 ys then cmpZ (sgn n0 (Lb.val xs)) (sgn n1 (Lb.val ys)) else 0)) ∧ Below w.heap.size w w' := by
 obtain ⟨W0, hW0⟩ : ∃ W0, Ent2 w W0 n0 n1 A A' n n' c c' := ⟨_, rfl⟩
 have hsz := ent2_size hW0
 have HT := hide (ent2_two hW0)
 have HA := hide (ent2_args hW0)
 have HB := hide (ent2_below hW0)
 have HH := hide (h.below HB.out (Nat.le_refl _))
 have HH' := hide (h'.below HB.out (Nat.le_refl _))
 have HW0 := Lib.hid hW0
 have HV0 := hide (valid_limbs (neg := n0) h.ok)
 have HV1 := hide (valid_limbs (neg := n1) h'.ok)
 clear hW0 h h'
 cases hv : validB n0 xs && validB n1 ys
 ·have HV := Lib.hid hv
  clear hv
  rw [cond_false]
  go_enter Tryz.func55, Tryz.ntmps55
  go_wp2_with (go_at_call 95; rw [← HW0.out]; refine (valid2_any _ _ _ _ _ _ _ _ _ _ _ xs ys _ HA.out HH.out HH'.out).mono ?_; rintro e w1 ⟨rfl, hb⟩; rw [HV.out]; have B1 := hide (HB.out.trans (hb.mono (by omega))); clear hb)
  go_ret
  exact ⟨rfl, B1.out⟩
 ·have hv2 := hv
  simp only [Bool.and_eq_true] at hv2
  obtain ⟨e0, l0, z0⟩ := HV0.out hv2.1
  obtain ⟨e1, l1, z1⟩ := HV1.out hv2.2
  obtain ⟨a, rfl⟩ : ∃ a, xs = Lb.limbs a := ⟨_, e0⟩
  obtain ⟨b, rfl⟩ : ∃ b, ys = Lb.limbs b := ⟨_, e1⟩
  have HV := Lib.hid hv
  clear hv hv2 e0 e1
  rw [cond_true, Lb.val_limbs, Lb.val_limbs]
  rw [Lb.val_limbs] at z0 z1
  have Z0 := hide z0
  have Z1 := hide z1
  clear z0 z1
  cases n0 <;> cases n1
  ·go_enter Tryz.func55, Tryz.ntmps55
   go_wp2_with (first
    | (go_at_call 95; rw [← HW0.out]; refine (valid2_any _ _ _ _ _ _ _ _ _ _ _ (Lb.limbs a) (Lb.limbs b) _ HA.out HH.out HH'.out).mono ?_; rintro e w1 ⟨rfl, hb⟩; rw [HV.out]; obtain ⟨s1, s2, s3, s4⟩ := HT.out.below hb (by omega); have B1 := hide (HB.out.trans (hb.mono (by omega))); have X1 := hide (HH.out.below hb (Nat.le_refl _)); have Y1 := hide (HH'.out.below hb (Nat.le_refl _)); have hs1 := hb.size; clear hb)
    | (go_at_call 97; refine (compare_any _ _ _ _ _ _ a b _ X1.out Y1.out).mono ?_; rintro e w2 ⟨rfl, hb2⟩))
   go_ret
   exact ⟨by rw [cmpZ_pos]; rfl, B1.out.trans (hb2.mono (by omega))⟩
  ·go_enter Tryz.func55, Tryz.ntmps55
   go_wp2_with (first
    | (go_at_call 95; rw [← HW0.out]; refine (valid2_any _ _ _ _ _ _ _ _ _ _ _ (Lb.limbs a) (Lb.limbs b) _ HA.out HH.out HH'.out).mono ?_; rintro e w1 ⟨rfl, hb⟩; rw [HV.out]; obtain ⟨s1, s2, s3, s4⟩ := HT.out.below hb (by omega); have B1 := hide (HB.out.trans (hb.mono (by omega))); have X1 := hide (HH.out.below hb (Nat.le_refl _)); have Y1 := hide (HH'.out.below hb (Nat.le_refl _)); have hs1 := hb.size; clear hb)
    | (go_at_call 96; refine (sign_any _ _).mono ?_; rintro e w2 ⟨rfl, rfl⟩))
   go_ret
   exact ⟨by rw [cmpZ_pn (fun e => by have := Z1.out e; cases this)]; rfl, B1.out⟩
  ·go_enter Tryz.func55, Tryz.ntmps55
   go_wp2_with (first
    | (go_at_call 95; rw [← HW0.out]; refine (valid2_any _ _ _ _ _ _ _ _ _ _ _ (Lb.limbs a) (Lb.limbs b) _ HA.out HH.out HH'.out).mono ?_; rintro e w1 ⟨rfl, hb⟩; rw [HV.out]; obtain ⟨s1, s2, s3, s4⟩ := HT.out.below hb (by omega); have B1 := hide (HB.out.trans (hb.mono (by omega))); have X1 := hide (HH.out.below hb (Nat.le_refl _)); have Y1 := hide (HH'.out.below hb (Nat.le_refl _)); have hs1 := hb.size; clear hb)
    | (go_at_call 96; refine (sign_any _ _).mono ?_; rintro e w2 ⟨rfl, rfl⟩))
   go_ret
   exact ⟨by rw [cmpZ_np (fun e => by have := Z0.out e; cases this)]; rfl, B1.out⟩
  ·go_enter Tryz.func55, Tryz.ntmps55
   go_wp2_with (first
    | (go_at_call 95; rw [← HW0.out]; refine (valid2_any _ _ _ _ _ _ _ _ _ _ _ (Lb.limbs a) (Lb.limbs b) _ HA.out HH.out HH'.out).mono ?_; rintro e w1 ⟨rfl, hb⟩; rw [HV.out]; obtain ⟨s1, s2, s3, s4⟩ := HT.out.below hb (by omega); have B1 := hide (HB.out.trans (hb.mono (by omega))); have X1 := hide (HH.out.below hb (Nat.le_refl _)); have Y1 := hide (HH'.out.below hb (Nat.le_refl _)); have hs1 := hb.size; clear hb)
    | (go_at_call 97; refine (compare_any _ _ _ _ _ _ b a _ Y1.out X1.out).mono ?_; rintro e w2 ⟨rfl, hb2⟩))
   go_ret
   exact ⟨by rw [cmpZ_neg]; rfl, B1.out.trans (hb2.mono (by omega))⟩
end Go.Proofs.YtjbcalbbhomkjaaGreat
