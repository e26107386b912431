import Derived.Test.YtjbcalbbhomkjaaGreatEMade
namespace Go.Proofs.YtjbcalbbhomkjaaGreat
open Go.RowKit
set_option maxRecDepth 100000 in
theorem valid1_any (neg : Bool) (A : Option Addr) (n c : Nat) (xs : List Nat) (w : World) (h : R16 w A n c xs) :
  Calls Tryz.prog 130 #[.agg #[.bool neg, .slice A n c]] w fun e w' => e = .returned (.bool (!validB neg xs)) ∧ Below w.heap.size w w' := by
 have HH := hide h
 clear h
 go_enter Tryz.func130, Tryz.ntmps130
 have hl := load_whole (Blk.new w 35 #[.bool neg, .slice A n c])
 go_wp2_with (go_at_call 47; refine (Valid_any _ _ _ _ xs _ (HH.out.alloc _)).mono ?_; rintro e w1 ⟨rfl, hb⟩)
 go_ret
 exact ⟨rfl, ((Below.refl _ _).alloc (Nat.le_refl _) _).trans (hb.mono (by simp))⟩
def badAt (b0 b1 : Bool) : Int := if b0 then (if b1 then -1 else 1) else 0
set_option maxRecDepth 100000 in
theorem index2_any (g d : Nat) (t : TypeId) (n0 n1 : Bool) (A0 A1 : Option Addr) (k0 d0 k1 d1 : Nat) (xs0 xs1 : List Nat) (w : World) (hb : Blk w g t #[.bool n0, .slice A0 k0 d0, .bool n1, .slice A1 k1 d1]) (h0 : R16 w A0 k0 d0 xs0) (h1 : R16 w A1 k1 d1 xs1) :
  Calls Tryz.prog 167 #[.slice (some ⟨g, 0, none⟩) 2 d, .func (.func 130) #[] #[]] w fun e w' => e = .returned (.int .i64 (badAt (validB n0 xs0) (validB n1 xs1))) ∧ Below w.heap.size w w' := by
 have HB := hide hb
 have H0 := hide h0
 have H1 := hide h1
 clear hb h0 h1
 generalize hv0 : validB n0 xs0 = v0
 generalize hv1 : validB n1 xs1 = v1
 have HV0 := Lib.hid hv0
 have HV1 := Lib.hid hv1
 clear hv0 hv1
 go_enter Tryz.func167, Tryz.ntmps167
 go_wp2
 go_loopw [8] (fun i wr => ∃ k : Nat, k ≤ 2 ∧ i = .int .i64 (k : Int) ∧ Below w.heap.size w wr ∧ (0 < k → v0 = true) ∧ (1 < k → v1 = true)) (fun i _ => 2 - (intOf i).toNat)
 case atStart => exact ⟨0, by omega, rfl, Below.refl _ _, fun h => by omega, fun h => by omega⟩
 case round =>
  obtain ⟨k, hk, rfl, hbw, hk0, hk1⟩ := hrel
  have b := HB.out.below hbw HB.out.lt
  have c0 : wr.cell? ⟨g, 0, none⟩ = some (.bool n0) := by rw [b.cell]; rfl
  have c1 : wr.cell? ⟨g, 1, none⟩ = some (.slice A0 k0 d0) := by rw [b.cell]; rfl
  have c2 : wr.cell? ⟨g, 2, none⟩ = some (.bool n1) := by rw [b.cell]; rfl
  have c3 : wr.cell? ⟨g, 3, none⟩ = some (.slice A1 k1 d1) := by rw [b.cell]; rfl
  have HBW := hide hbw
  clear hbw b
  have hB1 : ∀ w1, Below wr.heap.size wr w1 → Below w.heap.size w w1 := fun w1 h => HBW.out.trans (h.mono HBW.out.size)
  have HB1 := hide hB1
  clear hB1
  rcases (by omega : k = 0 ∨ k = 1 ∨ k = 2) with rfl | rfl | rfl
  ·cases v0
   all_goals go_wp2_with (go_at_call 130; refine (valid1_any _ _ _ _ xs0 _ (H0.out.below HBW.out (Nat.le_refl _))).mono ?_; rintro e w1 ⟨rfl, hb⟩; rw [HV0.out])
   ·go_ret
    exact ⟨rfl, HB1.out _ hb⟩
   ·go_roundw
    case rel => exact ⟨1, by omega, rfl, HB1.out _ hb, fun _ => trivial, fun h => by omega⟩
    case measure => simp [intOf]
  ·cases v1
   all_goals go_wp2_with (go_at_call 130; refine (valid1_any _ _ _ _ xs1 _ (H1.out.below HBW.out (Nat.le_refl _))).mono ?_; rintro e w1 ⟨rfl, hb⟩; rw [HV1.out])
   ·go_ret
    refine ⟨?_, HB1.out _ hb⟩
    rw [hk0 (by omega)]
    rfl
   ·go_roundw
    case rel => exact ⟨2, by omega, rfl, HB1.out _ hb, fun _ => hk0 (by omega), fun _ => trivial⟩
    case measure => simp [intOf]
  ·go_wp2
   go_ret
   refine ⟨?_, HBW.out⟩
   rw [hk0 (by omega), hk1 (by omega)]
   rfl
set_option maxRecDepth 100000 in
theorem contains2_any (g d : Nat) (t : TypeId) (n0 n1 : Bool) (A0 A1 : Option Addr) (k0 d0 k1 d1 : Nat) (xs0 xs1 : List Nat) (w : World) (hb : Blk w g t #[.bool n0, .slice A0 k0 d0, .bool n1, .slice A1 k1 d1]) (h0 : R16 w A0 k0 d0 xs0) (h1 : R16 w A1 k1 d1 xs1) :
  Calls Tryz.prog 129 #[.slice (some ⟨g, 0, none⟩) 2 d, .func (.func 130) #[] #[]] w fun e w' => e = .returned (.bool (!(validB n0 xs0 && validB n1 xs1))) ∧ Below w.heap.size w w' := by
 have HB := hide hb
 have H0 := hide h0
 have H1 := hide h1
 clear hb h0 h1
 cases hv0 : validB n0 xs0
 all_goals cases hv1 : validB n1 xs1
 all_goals
  have HV0 := Lib.hid hv0
  have HV1 := Lib.hid hv1
  clear hv0 hv1
  go_enter Tryz.func129, Tryz.ntmps129
  go_wp2_with (go_at_call 167; refine (index2_any _ _ _ _ _ _ _ _ _ _ _ xs0 xs1 _ HB.out H0.out H1.out).mono ?_; rintro e w1 ⟨rfl, hb⟩; rw [HV0.out, HV1.out]; simp only [badAt, if_true, if_false, Bool.false_eq_true])
  go_ret
  exact ⟨rfl, hb⟩
set_option maxRecDepth 100000 in
theorem valid2_any (g d : Nat) (t : TypeId) (n0 n1 : Bool) (A0 A1 : Option Addr) (k0 d0 k1 d1 : Nat) (xs0 xs1 : List Nat) (w : World) (hb : Blk w g t #[.bool n0, .slice A0 k0 d0, .bool n1, .slice A1 k1 d1]) (h0 : R16 w A0 k0 d0 xs0) (h1 : R16 w A1 k1 d1 xs1) :
  Calls Tryz.prog 95 #[.slice (some ⟨g, 0, none⟩) 2 d] w fun e w' => e = .returned (.bool (validB n0 xs0 && validB n1 xs1)) ∧ Below w.heap.size w w' := by
 have HB := hide hb
 have H0 := hide h0
 have H1 := hide h1
 clear hb h0 h1
 cases hv0 : validB n0 xs0
 all_goals cases hv1 : validB n1 xs1
 all_goals
  have HV0 := Lib.hid hv0
  have HV1 := Lib.hid hv1
  clear hv0 hv1
  go_enter Tryz.func95, Tryz.ntmps95
  go_wp2_with (go_at_call 129; refine (contains2_any _ _ _ _ _ _ _ _ _ _ _ xs0 xs1 _ HB.out H0.out H1.out).mono ?_; rintro e w1 ⟨rfl, hb⟩; rw [HV0.out, HV1.out]; simp only [Bool.and_true, Bool.and_false, Bool.not_false, Bool.not_true, Bool.false_and, Bool.true_and])
  go_ret
  exact ⟨rfl, hb⟩
end Go.Proofs.YtjbcalbbhomkjaaGreat
