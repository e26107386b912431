import Derived.Deep.DeepCutAuto
import Derived.Test.YtjbcalbbhomkjaaGreatEValid
import Derived.Test.YtjbcalbbhomkjaaGreatEAdd
import Derived.Test.YtjbcalbbhomkjaaGreatESub
import Derived.Test.YtjbcalbbhomkjaaGreatECmp
import Derived.Test.YtjbcalbbhomkjaaGreatEReg
namespace Go.Proofs.YtjbcalbbhomkjaaGreat
open Go.RowKit
def sgn (neg : Bool) (m : Nat) : Int := if neg then -(m : Int) else (m : Int)
def wv (z : Int) (A : Option Addr) (c : Nat) : Value := .agg #[.bool (decide (z < 0)), .slice A (Lb.limbs z.natAbs).length c]
def OutW (w w' : World) (e : Ending) (z : Int) : Prop :=
 (((Lb.limbs z.natAbs).length ≤ 1024 ∧ ∃ A c, e = .returned (.tuple #[wv z A c, .int .i64 0]) ∧ R16 w' A (Lb.limbs z.natAbs).length c (Lb.limbs z.natAbs) ∧ ∀ ad, A = some ad → w.heap.size ≤ ad.block) ∨
  (1024 < (Lb.limbs z.natAbs).length ∧ e = .returned (.tuple #[zeroW, .int .i64 3]))) ∧ Below w.heap.size w w'
theorem made_out {w w' : World} {neg : Bool} {m d : Nat} {A : Option Addr} (h : R16 w' A (Lb.limbs m).length d (Lb.limbs m)) (hf : ∀ ad, A = some ad → w.heap.size ≤ ad.block) (hb : Below w.heap.size w w') :
  OutW w w' (.returned (madeV neg A (Lb.limbs m).length d)) (sgn neg m) := by
 have e1 : (sgn neg m).natAbs = m := by unfold sgn; split <;> omega
 have e2 : decide (sgn neg m < 0) = (neg && decide (0 < (Lb.limbs m).length)) := by
  have e3 : (0 < (Lb.limbs m).length) ↔ m ≠ 0 := by
   constructor
   ·rintro h rfl; simp at h
   ·intro h
    rcases Nat.eq_zero_or_pos (Lb.limbs m).length with h0 | h0
    ·exact absurd (Lb.limbs_eq_nil.1 (List.eq_nil_of_length_eq_zero h0)) h
    ·exact h0
  cases neg
  ·simp [sgn]
  ·simp only [sgn, if_true, Bool.true_and, decide_eq_decide, e3]; omega
 refine ⟨?_, hb⟩
 unfold madeV wv
 rw [e1]
 by_cases hn : (Lb.limbs m).length ≤ 1024
 ·left
  rw [if_pos hn]
  exact ⟨hn, A, d, by rw [e2], h, hf⟩
 ·right
  rw [if_neg hn]
  exact ⟨by omega, rfl⟩
theorem madeV_form (neg : Bool) (A : Option Addr) (n c : Nat) : ∃ (x : Bool) (A' : Option Addr) (n' c' : Nat) (st : Int), madeV neg A n c = .tuple #[.agg #[.bool x, .slice A' n' c'], .int .i64 st] := by
 unfold madeV
 split
 ·exact ⟨_, _, _, _, _, rfl⟩
 ·exact ⟨_, _, _, _, _, rfl⟩
def Two (B : Nat) (n0 : Bool) (s0 : Value) (n1 : Bool) (s1 : Value) (W : World) : Prop :=
 W.cell? ⟨B, 0, none⟩ = some (.bool n0) ∧ W.cell? ⟨B, 1, none⟩ = some s0 ∧ W.cell? ⟨B + 1, 0, none⟩ = some (.bool n1) ∧ W.cell? ⟨B + 1, 1, none⟩ = some s1
theorem Two.below {B Bd : Nat} {n0 n1 : Bool} {s0 s1 : Value} {W W' : World} (h : Two B n0 s0 n1 s1 W) (hb : Below Bd W W') (hB : B + 2 ≤ Bd) : Two B n0 s0 n1 s1 W' := by
 obtain ⟨h1, h2, h3, h4⟩ := h
 exact ⟨(hb.cell (p := ⟨B, 0, none⟩) (by simp; omega)).trans h1, (hb.cell (p := ⟨B, 1, none⟩) (by simp; omega)).trans h2, (hb.cell (p := ⟨B + 1, 0, none⟩) (by simp; omega)).trans h3, (hb.cell (p := ⟨B + 1, 1, none⟩) (by simp; omega)).trans h4⟩
theorem Two.far {B : Nat} {n0 n1 : Bool} {s0 s1 : Value} {W : World} (h : Two B n0 s0 n1 s1 W) (i : Nat) (v : Value) : Two B n0 s0 n1 s1 (W.setCell ⟨B + 1 + 1, i, none⟩ v) := by
 obtain ⟨h1, h2, h3, h4⟩ := h
 exact ⟨(World.cell?_setCell_other _ _ _ _ (by simp)).trans h1, (World.cell?_setCell_other _ _ _ _ (by simp)).trans h2, (World.cell?_setCell_other _ _ _ _ (by simp)).trans h3, (World.cell?_setCell_other _ _ _ _ (by simp)).trans h4⟩
theorem sum_end {w W2 W3 : World} {neg : Bool} {m d : Nat} {A : Option Addr} (h2 : R16 W2 A (Lb.limbs m).length d (Lb.limbs m)) (hf : ∀ ad, A = some ad → w.heap.size + 3 ≤ ad.block) (hb2 : Below w.heap.size w W2) (hb3 : Below W2.heap.size W2 W3) (u v : Value) :
  OutW w ((W3.setCell ⟨w.heap.size + 1 + 1, 0, none⟩ u).setCell ⟨w.heap.size + 1 + 1, 1, none⟩ v) (.returned (madeV neg A (Lb.limbs m).length d)) (sgn neg m) :=
 made_out (((h2.below hb3 (Nat.le_refl _)).far _ _ (fun ad e => by have := hf ad e; simp; omega)).far _ _ (fun ad e => by have := hf ad e; simp; omega)) (fun ad e => by have := hf ad e; omega)
  (((hb2.trans (hb3.mono hb2.size)).setCell (by simp; omega) _).setCell (by simp; omega) _)
theorem sgn_add (n : Bool) (a b : Nat) : sgn n a + sgn n b = sgn n (a + b) := by cases n <;> simp [sgn] <;> omega
theorem sgn_sub {n0 n1 : Bool} {a b : Nat} (hn : n0 ≠ n1) (h : b ≤ a) : sgn n0 a + sgn n1 b = sgn n0 (a - b) := by
 cases n0 <;> cases n1 <;> simp [sgn] at hn ⊢ <;> omega
theorem sgn_bus {n0 n1 : Bool} {a b : Nat} (hn : n0 ≠ n1) (h : a ≤ b) : sgn n0 a + sgn n1 b = sgn n1 (b - a) := by
 cases n0 <;> cases n1 <;> simp [sgn] at hn ⊢ <;> omega
set_option maxRecDepth 100000 in
set_option maxHeartbeats 4000000 in
theorem sum_core (n0 n1 : Bool) (A A' : Option Addr) (n n' c c' a b : Nat) (w : World) (h : R16 w A n c (Lb.limbs a)) (h' : R16 w A' n' c' (Lb.limbs b)) (hn : n ≤ 100000) (hn' : n' ≤ 100000) :
  Calls Tryz.prog 166 #[.agg #[.bool n0, .slice A n c], .agg #[.bool n1, .slice A' n' c']] w fun e w' => OutW w w' e (sgn n0 a + sgn n1 b) := by
 obtain ⟨W0, hW0⟩ : ∃ W0, W0 = ((w.alloc (.cells #[.bool n0, .slice A n c] 35)).alloc (.cells #[.bool n1, .slice A' n' c'] 35)).alloc (.cells #[.bool false, .slice none 0 0] 35) := ⟨_, rfl⟩
 have HX := hide (((h.alloc (.cells #[.bool n0, .slice A n c] 35)).alloc (.cells #[.bool n1, .slice A' n' c'] 35)).alloc (.cells #[.bool false, .slice none 0 0] 35))
 have HY := hide (((h'.alloc (.cells #[.bool n0, .slice A n c] 35)).alloc (.cells #[.bool n1, .slice A' n' c'] 35)).alloc (.cells #[.bool false, .slice none 0 0] 35))
 have b1 := (((Blk.new w 35 #[.bool n0, .slice A n c]).alloc (.cells #[.bool n1, .slice A' n' c'] 35)).alloc (.cells #[.bool false, .slice none 0 0] 35))
 have b2 := ((Blk.new (w.alloc (.cells #[.bool n0, .slice A n c] 35)) 35 #[.bool n1, .slice A' n' c']).alloc (.cells #[.bool false, .slice none 0 0] 35))
 have b3 := (Blk.new ((w.alloc (.cells #[.bool n0, .slice A n c] 35)).alloc (.cells #[.bool n1, .slice A' n' c'] 35)) 35 #[.bool false, .slice none 0 0])
 have hb0 := (((Below.refl w.heap.size w).alloc (Nat.le_refl _) (.cells #[.bool n0, .slice A n c] 35)).alloc (by simp) (.cells #[.bool n1, .slice A' n' c'] 35)).alloc (by simp; omega) (.cells #[.bool false, .slice none 0 0] 35)
 rw [← hW0] at HX HY b1 b2 b3 hb0
 have hT0 : Two w.heap.size n0 (.slice A n c) n1 (.slice A' n' c') W0 := ⟨by rw [b1.cell]; rfl, by rw [b1.cell]; rfl, by rw [show w.heap.size + 1 = (w.alloc (.cells #[.bool n0, .slice A n c] 35)).heap.size from by simp, b2.cell]; rfl, by rw [show w.heap.size + 1 = (w.alloc (.cells #[.bool n0, .slice A n c] 35)).heap.size from by simp, b2.cell]; rfl⟩
 have hO0 : Blk W0 (w.heap.size + 1 + 1) 35 #[.bool false, .slice none 0 0] := by simpa using b3
 have hsz : W0.heap.size = w.heap.size + 1 + 1 + 1 := by rw [hW0]; simp
 have HT0 := hide hT0
 have HO0 := hide hO0
 have HB0 := hide hb0
 have HW0 := Lib.hid hW0
 clear h h' hW0 b1 b2 b3 hT0 hO0 hb0
 go_enter Tryz.func166, Tryz.ntmps166
 by_cases hne : n0 = n1
 ·subst hne
  rw [sgn_add]
  go_wp2_with (go_at_call 97; rw [← HW0.out]; refine (compare_any _ _ _ _ _ _ a b _ HX.out HY.out).mono ?_; rintro e w1 ⟨rfl, hb⟩; obtain ⟨c1, c2, c3, c4⟩ := HT0.out.below hb (by omega))
  have hS : Two w.heap.size n0 (.slice A n c) n0 (.slice A' n' c') w1.drew := HT0.out.below hb.drew (by omega)
  have hO := HO0.out.below hb (by omega)
  have hX := HX.out.below hb.drew (Nat.le_refl _)
  have hY := HY.out.below hb.drew (Nat.le_refl _)
  have hBs : w.heap.size + 2 ≤ w1.drew.heap.size := by have := hb.size; show _ ≤ w1.heap.size; omega
  have hBs' : w.heap.size + 3 ≤ w1.drew.heap.size := by have := hb.size; show _ ≤ w1.heap.size; omega
  have hBw : w.heap.size ≤ w1.drew.heap.size := by omega
  have hBl : Below w.heap.size w w1.drew := (HB0.out.trans (hb.mono (by omega))).drew
  clear c1 c2 c3 c4
  refine wp_region_heldN (Two w.heap.size n0 (.slice A n c) n0 (.slice A' n' c')) 12 #[false, false, false, false, false, false, false, false, false, false, false, false] rfl rfl (by kernel_rfl) ?_
  refine takeH 0 18 rfl rfl (by kernel_rfl) (by kernel_rfl) (by kernel_rfl) rfl hS (by rintro w9 ⟨s1, s2, s3, s4⟩; go_simp; with_reducible rfl) ?_
  simp only [List.setIfInBounds_toArray, List.set_cons_zero, List.set_cons_succ]
  refine takeH 1 19 rfl rfl (by kernel_rfl) (by kernel_rfl) (by kernel_rfl) rfl hS (by rintro w9 ⟨s1, s2, s3, s4⟩; go_simp; with_reducible rfl) ?_
  simp only [List.setIfInBounds_toArray, List.set_cons_zero, List.set_cons_succ]
  refine takeH 2 20 rfl rfl (by kernel_rfl) (by kernel_rfl) (by kernel_rfl) rfl hS (by rintro w9 ⟨s1, s2, s3, s4⟩; go_simp; with_reducible rfl) ?_
  simp only [List.setIfInBounds_toArray, List.set_cons_zero, List.set_cons_succ]
  refine takeH 3 21 rfl rfl (by kernel_rfl) (by kernel_rfl) (by kernel_rfl) rfl hS (by rintro w9 ⟨s1, s2, s3, s4⟩; go_simp; with_reducible rfl) ?_
  simp only [List.setIfInBounds_toArray, List.set_cons_zero, List.set_cons_succ]
  refine takeH 4 22 rfl rfl (by kernel_rfl) (by kernel_rfl) (by kernel_rfl) rfl hS (by rintro w9 ⟨s1, s2, s3, s4⟩; go_simp; with_reducible rfl) ?_
  simp only [List.setIfInBounds_toArray, List.set_cons_zero, List.set_cons_succ]
  refine takeH 5 23 rfl rfl (by kernel_rfl) (by kernel_rfl) (by kernel_rfl) rfl hS (by rintro w9 ⟨s1, s2, s3, s4⟩; go_simp; with_reducible rfl) ?_
  simp only [List.setIfInBounds_toArray, List.set_cons_zero, List.set_cons_succ]
  refine onlyH 6 rfl (by kernel_rfl) rfl ?_
  go_simp
  refine (add_any _ _ _ _ _ _ a b _ hX hY hn hn').mono ?_
  rintro e w2 ⟨A2, d2, rfl, h2, h3, h4⟩
  have hS2 := hS.below h4 hBs
  have hO2 := hO.drew.below h4 hO.lt
  refine ⟨hS2, onlyH 7 rfl (by kernel_rfl) rfl ?_⟩
  go_simp
  refine (made_any _ _ _ _ (Lb.limbs (a + b)) _ h2).mono ?_
  rintro e w3 ⟨rfl, hb3⟩
  have hS3 := hS2.below hb3 (Nat.le_trans hBs h4.size)
  have hO3 := hO2.below hb3 (Nat.lt_of_lt_of_le hO.lt h4.size)
  have HM := hide (fun u v => sum_end (neg := n0) h2 (fun ad e => Nat.le_trans hBs' (h3 ad e)) (hBl.trans (h4.mono hBw)) hb3 u v)
  obtain ⟨x, A3, n3, d3, st, hF⟩ := madeV_form n0 A2 (Lb.limbs (a + b)).length d2
  rw [hF] at HM ⊢
  clear hF h2 h3 h4 hb3
  refine ⟨hS3, ?_⟩
  refine takeH 8 26 rfl rfl (by kernel_rfl) (by kernel_rfl) (by kernel_rfl) rfl hS3 (by rintro w9 ⟨s1, s2, s3, s4⟩; go_simp; with_reducible rfl) ?_
  simp only [List.setIfInBounds_toArray, List.set_cons_zero, List.set_cons_succ]
  refine takeH 9 27 rfl rfl (by kernel_rfl) (by kernel_rfl) (by kernel_rfl) rfl hS3 (by rintro w9 ⟨s1, s2, s3, s4⟩; go_simp; with_reducible rfl) ?_
  simp only [List.setIfInBounds_toArray, List.set_cons_zero, List.set_cons_succ]
  have hc1 := hO3.cell 0
  have hc2 := hO3.cell 1
  have hf1 := hO3.frozen 0
  have hf2 := hO3.frozen 1
  have hO4 := (hO3.set_ 0 (.bool x)).set_ 1 (.slice A3 n3 d3)
  have hS4 := (hS3.far 0 (.bool x)).far 1 (.slice A3 n3 d3)
  have HO4 := hide hO4
  have HS4 := hide hS4
  clear hO4 hS4
  simp only [List.getElem?_toArray, List.getElem?_cons_zero, List.getElem?_cons_succ] at hc1 hc2
  refine onlyH 10 rfl (by kernel_rfl) rfl ?_
  go_simp
  refine ⟨HS4.out, ?_⟩
  refine takeH 11 5 rfl rfl (by kernel_rfl) (by kernel_rfl) (by kernel_rfl) rfl HS4.out (by rintro w9 ⟨s1, s2, s3, s4⟩; go_simp; with_reducible rfl) ?_
  simp only [List.setIfInBounds_toArray, List.set_cons_zero, List.set_cons_succ]
  refine wpAnyH_done (by kernel_rfl) (onlyN_intro ?_) _
  go_wp2
  refine bodyPost_ret (results_cellTmp rfl rfl rfl (load_whole HO4.out)) rfl ?_
  exact HM.out _ _
 ·have hne' : (n0 == n1) = false := by cases n0 <;> cases n1 <;> simp at hne ⊢
  have HNE := Lib.hid hne
  clear hne
  by_cases hlt : a < b
  ·rw [sgn_bus HNE.out (by omega)]
   have hcm := cmpN_lt hlt
   have HLE : Hid (a ≤ b) := (by omega : a ≤ b)
   clear hlt
   go_wp2_with (go_at_call 97; rw [← HW0.out]; refine (compare_any _ _ _ _ _ _ a b _ HX.out HY.out).mono ?_; rintro e w1 ⟨rfl, hb⟩; rw [hcm]; obtain ⟨c1, c2, c3, c4⟩ := HT0.out.below hb (by omega))
   have hS : Two w.heap.size n0 (.slice A n c) n1 (.slice A' n' c') w1.drew := HT0.out.below hb.drew (by omega)
   have hO := HO0.out.below hb (by omega)
   have hX := HX.out.below hb.drew (Nat.le_refl _)
   have hY := HY.out.below hb.drew (Nat.le_refl _)
   have hBs : w.heap.size + 2 ≤ w1.drew.heap.size := by have := hb.size; show _ ≤ w1.heap.size; omega
   have hBs' : w.heap.size + 3 ≤ w1.drew.heap.size := by have := hb.size; show _ ≤ w1.heap.size; omega
   have hBw : w.heap.size ≤ w1.drew.heap.size := by omega
   have hBl : Below w.heap.size w w1.drew := (HB0.out.trans (hb.mono (by omega))).drew
   clear c1 c2 c3 c4
   refine wp_region_heldN (Two w.heap.size n0 (.slice A n c) n1 (.slice A' n' c')) 12 #[false, false, false, false, false, false, false, false, false, false, false, false] rfl rfl (by kernel_rfl) ?_
   refine takeH 0 41 rfl rfl (by kernel_rfl) (by kernel_rfl) (by kernel_rfl) rfl hS (by rintro w9 ⟨s1, s2, s3, s4⟩; go_simp; with_reducible rfl) ?_
   simp only [List.setIfInBounds_toArray, List.set_cons_zero, List.set_cons_succ]
   refine takeH 1 42 rfl rfl (by kernel_rfl) (by kernel_rfl) (by kernel_rfl) rfl hS (by rintro w9 ⟨s1, s2, s3, s4⟩; go_simp; with_reducible rfl) ?_
   simp only [List.setIfInBounds_toArray, List.set_cons_zero, List.set_cons_succ]
   refine takeH 2 43 rfl rfl (by kernel_rfl) (by kernel_rfl) (by kernel_rfl) rfl hS (by rintro w9 ⟨s1, s2, s3, s4⟩; go_simp; with_reducible rfl) ?_
   simp only [List.setIfInBounds_toArray, List.set_cons_zero, List.set_cons_succ]
   refine takeH 3 44 rfl rfl (by kernel_rfl) (by kernel_rfl) (by kernel_rfl) rfl hS (by rintro w9 ⟨s1, s2, s3, s4⟩; go_simp; with_reducible rfl) ?_
   simp only [List.setIfInBounds_toArray, List.set_cons_zero, List.set_cons_succ]
   refine takeH 4 45 rfl rfl (by kernel_rfl) (by kernel_rfl) (by kernel_rfl) rfl hS (by rintro w9 ⟨s1, s2, s3, s4⟩; go_simp; with_reducible rfl) ?_
   simp only [List.setIfInBounds_toArray, List.set_cons_zero, List.set_cons_succ]
   refine takeH 5 46 rfl rfl (by kernel_rfl) (by kernel_rfl) (by kernel_rfl) rfl hS (by rintro w9 ⟨s1, s2, s3, s4⟩; go_simp; with_reducible rfl) ?_
   simp only [List.setIfInBounds_toArray, List.set_cons_zero, List.set_cons_succ]
   refine onlyH 6 rfl (by kernel_rfl) rfl ?_
   go_simp
   refine (sub_any _ _ _ _ _ _ b a _ hY hX HLE.out hn').mono ?_
   rintro e w2 ⟨A2, d2, rfl, h2, h3, h4⟩
   have hS2 := hS.below h4 hBs
   have hO2 := hO.drew.below h4 hO.lt
   refine ⟨hS2, onlyH 7 rfl (by kernel_rfl) rfl ?_⟩
   go_simp
   refine (made_any _ _ _ _ (Lb.limbs (b - a)) _ h2).mono ?_
   rintro e w3 ⟨rfl, hb3⟩
   have hS3 := hS2.below hb3 (Nat.le_trans hBs h4.size)
   have hO3 := hO2.below hb3 (Nat.lt_of_lt_of_le hO.lt h4.size)
   have HM := hide (fun u v => sum_end (neg := n1) h2 (fun ad e => Nat.le_trans hBs' (h3 ad e)) (hBl.trans (h4.mono hBw)) hb3 u v)
   obtain ⟨x, A3, n3, d3, st, hF⟩ := madeV_form n1 A2 (Lb.limbs (b - a)).length d2
   rw [hF] at HM ⊢
   clear hF h2 h3 h4 hb3
   refine ⟨hS3, ?_⟩
   refine takeH 8 49 rfl rfl (by kernel_rfl) (by kernel_rfl) (by kernel_rfl) rfl hS3 (by rintro w9 ⟨s1, s2, s3, s4⟩; go_simp; with_reducible rfl) ?_
   simp only [List.setIfInBounds_toArray, List.set_cons_zero, List.set_cons_succ]
   refine takeH 9 50 rfl rfl (by kernel_rfl) (by kernel_rfl) (by kernel_rfl) rfl hS3 (by rintro w9 ⟨s1, s2, s3, s4⟩; go_simp; with_reducible rfl) ?_
   simp only [List.setIfInBounds_toArray, List.set_cons_zero, List.set_cons_succ]
   have hc1 := hO3.cell 0
   have hc2 := hO3.cell 1
   have hf1 := hO3.frozen 0
   have hf2 := hO3.frozen 1
   have hO4 := (hO3.set_ 0 (.bool x)).set_ 1 (.slice A3 n3 d3)
   have hS4 := (hS3.far 0 (.bool x)).far 1 (.slice A3 n3 d3)
   have HO4 := hide hO4
   have HS4 := hide hS4
   clear hO4 hS4
   simp only [List.getElem?_toArray, List.getElem?_cons_zero, List.getElem?_cons_succ] at hc1 hc2
   refine onlyH 10 rfl (by kernel_rfl) rfl ?_
   go_simp
   refine ⟨HS4.out, ?_⟩
   refine takeH 11 5 rfl rfl (by kernel_rfl) (by kernel_rfl) (by kernel_rfl) rfl HS4.out (by rintro w9 ⟨s1, s2, s3, s4⟩; go_simp; with_reducible rfl) ?_
   simp only [List.setIfInBounds_toArray, List.set_cons_zero, List.set_cons_succ]
   refine wpAnyH_done (by kernel_rfl) (onlyN_intro ?_) _
   go_wp2
   refine bodyPost_ret (results_cellTmp rfl rfl rfl (load_whole HO4.out)) rfl ?_
   exact HM.out _ _
  ·rw [sgn_sub HNE.out (by omega)]
   obtain ⟨v, hcm, hv⟩ : ∃ v : Nat, cmpN a b = (v : Int) ∧ v ≤ 1 := by
    by_cases he : a = b
    ·exact ⟨0, cmpN_eq he, by omega⟩
    ·exact ⟨1, cmpN_gt (by omega), by omega⟩
   have HLE : Hid (b ≤ a) := (by omega : b ≤ a)
   clear hlt
   go_wp2_with (go_at_call 97; rw [← HW0.out]; refine (compare_any _ _ _ _ _ _ a b _ HX.out HY.out).mono ?_; rintro e w1 ⟨rfl, hb⟩; rw [hcm]; obtain ⟨c1, c2, c3, c4⟩ := HT0.out.below hb (by omega))
   have hS : Two w.heap.size n0 (.slice A n c) n1 (.slice A' n' c') w1.drew := HT0.out.below hb.drew (by omega)
   have hO := HO0.out.below hb (by omega)
   have hX := HX.out.below hb.drew (Nat.le_refl _)
   have hY := HY.out.below hb.drew (Nat.le_refl _)
   have hBs : w.heap.size + 2 ≤ w1.drew.heap.size := by have := hb.size; show _ ≤ w1.heap.size; omega
   have hBs' : w.heap.size + 3 ≤ w1.drew.heap.size := by have := hb.size; show _ ≤ w1.heap.size; omega
   have hBw : w.heap.size ≤ w1.drew.heap.size := by omega
   have hBl : Below w.heap.size w w1.drew := (HB0.out.trans (hb.mono (by omega))).drew
   clear c1 c2 c3 c4
   refine wp_region_heldN (Two w.heap.size n0 (.slice A n c) n1 (.slice A' n' c')) 12 #[false, false, false, false, false, false, false, false, false, false, false, false] rfl rfl (by kernel_rfl) ?_
   refine takeH 0 31 rfl rfl (by kernel_rfl) (by kernel_rfl) (by kernel_rfl) rfl hS (by rintro w9 ⟨s1, s2, s3, s4⟩; go_simp; with_reducible rfl) ?_
   simp only [List.setIfInBounds_toArray, List.set_cons_zero, List.set_cons_succ]
   refine takeH 1 32 rfl rfl (by kernel_rfl) (by kernel_rfl) (by kernel_rfl) rfl hS (by rintro w9 ⟨s1, s2, s3, s4⟩; go_simp; with_reducible rfl) ?_
   simp only [List.setIfInBounds_toArray, List.set_cons_zero, List.set_cons_succ]
   refine takeH 2 33 rfl rfl (by kernel_rfl) (by kernel_rfl) (by kernel_rfl) rfl hS (by rintro w9 ⟨s1, s2, s3, s4⟩; go_simp; with_reducible rfl) ?_
   simp only [List.setIfInBounds_toArray, List.set_cons_zero, List.set_cons_succ]
   refine takeH 3 34 rfl rfl (by kernel_rfl) (by kernel_rfl) (by kernel_rfl) rfl hS (by rintro w9 ⟨s1, s2, s3, s4⟩; go_simp; with_reducible rfl) ?_
   simp only [List.setIfInBounds_toArray, List.set_cons_zero, List.set_cons_succ]
   refine takeH 4 35 rfl rfl (by kernel_rfl) (by kernel_rfl) (by kernel_rfl) rfl hS (by rintro w9 ⟨s1, s2, s3, s4⟩; go_simp; with_reducible rfl) ?_
   simp only [List.setIfInBounds_toArray, List.set_cons_zero, List.set_cons_succ]
   refine takeH 5 36 rfl rfl (by kernel_rfl) (by kernel_rfl) (by kernel_rfl) rfl hS (by rintro w9 ⟨s1, s2, s3, s4⟩; go_simp; with_reducible rfl) ?_
   simp only [List.setIfInBounds_toArray, List.set_cons_zero, List.set_cons_succ]
   refine onlyH 6 rfl (by kernel_rfl) rfl ?_
   go_simp
   refine (sub_any _ _ _ _ _ _ a b _ hX hY HLE.out hn).mono ?_
   rintro e w2 ⟨A2, d2, rfl, h2, h3, h4⟩
   have hS2 := hS.below h4 hBs
   have hO2 := hO.drew.below h4 hO.lt
   refine ⟨hS2, onlyH 7 rfl (by kernel_rfl) rfl ?_⟩
   go_simp
   refine (made_any _ _ _ _ (Lb.limbs (a - b)) _ h2).mono ?_
   rintro e w3 ⟨rfl, hb3⟩
   have hS3 := hS2.below hb3 (Nat.le_trans hBs h4.size)
   have hO3 := hO2.below hb3 (Nat.lt_of_lt_of_le hO.lt h4.size)
   have HM := hide (fun u v => sum_end (neg := n0) h2 (fun ad e => Nat.le_trans hBs' (h3 ad e)) (hBl.trans (h4.mono hBw)) hb3 u v)
   obtain ⟨x, A3, n3, d3, st, hF⟩ := madeV_form n0 A2 (Lb.limbs (a - b)).length d2
   rw [hF] at HM ⊢
   clear hF h2 h3 h4 hb3
   refine ⟨hS3, ?_⟩
   refine takeH 8 39 rfl rfl (by kernel_rfl) (by kernel_rfl) (by kernel_rfl) rfl hS3 (by rintro w9 ⟨s1, s2, s3, s4⟩; go_simp; with_reducible rfl) ?_
   simp only [List.setIfInBounds_toArray, List.set_cons_zero, List.set_cons_succ]
   refine takeH 9 40 rfl rfl (by kernel_rfl) (by kernel_rfl) (by kernel_rfl) rfl hS3 (by rintro w9 ⟨s1, s2, s3, s4⟩; go_simp; with_reducible rfl) ?_
   simp only [List.setIfInBounds_toArray, List.set_cons_zero, List.set_cons_succ]
   have hc1 := hO3.cell 0
   have hc2 := hO3.cell 1
   have hf1 := hO3.frozen 0
   have hf2 := hO3.frozen 1
   have hO4 := (hO3.set_ 0 (.bool x)).set_ 1 (.slice A3 n3 d3)
   have hS4 := (hS3.far 0 (.bool x)).far 1 (.slice A3 n3 d3)
   have HO4 := hide hO4
   have HS4 := hide hS4
   clear hO4 hS4
   simp only [List.getElem?_toArray, List.getElem?_cons_zero, List.getElem?_cons_succ] at hc1 hc2
   refine onlyH 10 rfl (by kernel_rfl) rfl ?_
   go_simp
   refine ⟨HS4.out, ?_⟩
   refine takeH 11 5 rfl rfl (by kernel_rfl) (by kernel_rfl) (by kernel_rfl) rfl HS4.out (by rintro w9 ⟨s1, s2, s3, s4⟩; go_simp; with_reducible rfl) ?_
   simp only [List.setIfInBounds_toArray, List.set_cons_zero, List.set_cons_succ]
   refine wpAnyH_done (by kernel_rfl) (onlyN_intro ?_) _
   go_wp2
   refine bodyPost_ret (results_cellTmp rfl rfl rfl (load_whole HO4.out)) rfl ?_
   exact HM.out _ _
end Go.Proofs.YtjbcalbbhomkjaaGreat
