import Derived.Test.YtjbcalbbhomkjaaGreatESum
namespace Go.Proofs.YtjbcalbbhomkjaaGreat
open Go.RowKit
theorem valid_limbs {neg : Bool} {xs : List Nat} (ok : Lb.Ok xs) (h : validB neg xs = true) : xs = Lb.limbs (Lb.val xs) ∧ xs.length ≤ 1024 ∧ (Lb.val xs = 0 → neg = false) := by
 unfold validB at h
 simp only [Bool.and_eq_true, decide_eq_true_eq] at h
 obtain ⟨h1, h2⟩ := h
 have hn : Lb.Norm xs := by
  refine (Lb.norm_iff xs).2 ?_
  split at h2
  ·left; exact List.eq_nil_of_length_eq_zero (by assumption)
  ·right; simpa using h2
 have e := Lb.eq_limbs ok hn
 refine ⟨e, h1, fun h0 => ?_⟩
 rw [h0] at e
 rw [e] at h2
 simpa using h2
def OutV (w w' : World) (e : Ending) (ok : Bool) (z : Int) : Prop := if ok then OutW w w' e z else e = .returned (.tuple #[zeroW, .int .i64 2]) ∧ Below w.heap.size w w'
theorem outw_far {w W1 W2 : World} {z : Int} {e : Ending} (h : OutW W1 W2 e z) (hb : Below w.heap.size w W1) :
  ∃ (x : Bool) (A : Option Addr) (n c : Nat) (st : Int), e = .returned (.tuple #[.agg #[.bool x, .slice A n c], .int .i64 st]) ∧ Below W1.heap.size W1 W2 ∧
   ∀ g u v, w.heap.size ≤ g → g < W1.heap.size → OutW w ((W2.setCell ⟨g, 0, none⟩ u).setCell ⟨g, 1, none⟩ v) e z := by
 obtain ⟨h1, h2⟩ := h
 rcases h1 with ⟨h1, A, c, rfl, h3, h4⟩ | ⟨h1, rfl⟩
 ·refine ⟨_, _, _, _, _, rfl, h2, fun g u v hg hg' => ⟨.inl ⟨h1, A, c, rfl, ?_, fun ad e => ?_⟩, ((hb.trans (h2.mono hb.size)).setCell hg _).setCell hg _⟩⟩
  ·exact (h3.far _ _ (fun ad e => by have := h4 ad e; simp; omega)).far _ _ (fun ad e => by have := h4 ad e; simp; omega)
  ·have := h4 ad e
   have := hb.size
   omega
 ·exact ⟨_, _, _, _, _, rfl, h2, fun g u v hg hg' => ⟨.inr ⟨h1, rfl⟩, ((hb.trans (h2.mono hb.size)).setCell hg _).setCell hg _⟩⟩
def Ent3 (w W0 : World) (n0 n1 : Bool) (A A' : Option Addr) (n n' c c' : Nat) : Prop :=
 W0 = (((w.alloc (.cells #[.bool n0, .slice A n c] 35)).alloc (.cells #[.bool n1, .slice A' n' c'] 35)).alloc (.cells #[.bool false, .slice none 0 0] 35)).alloc (.cells #[.bool n0, .slice A n c, .bool n1, .slice A' n' c'] 35)
theorem ent3_size {w W0 : World} {n0 n1 : Bool} {A A' : Option Addr} {n n' c c' : Nat} (h : Ent3 w W0 n0 n1 A A' n n' c c') : W0.heap.size = w.heap.size + 1 + 1 + 1 + 1 := by rw [h]; simp
theorem ent3_two {w W0 : World} {n0 n1 : Bool} {A A' : Option Addr} {n n' c c' : Nat} (h : Ent3 w W0 n0 n1 A A' n n' c c') : Two w.heap.size n0 (.slice A n c) n1 (.slice A' n' c') W0 := by
 have b1 := (((Blk.new w 35 #[.bool n0, .slice A n c]).alloc (.cells #[.bool n1, .slice A' n' c'] 35)).alloc (.cells #[.bool false, .slice none 0 0] 35)).alloc (.cells #[.bool n0, .slice A n c, .bool n1, .slice A' n' c'] 35)
 have b2 := ((Blk.new (w.alloc (.cells #[.bool n0, .slice A n c] 35)) 35 #[.bool n1, .slice A' n' c']).alloc (.cells #[.bool false, .slice none 0 0] 35)).alloc (.cells #[.bool n0, .slice A n c, .bool n1, .slice A' n' c'] 35)
 rw [World.size_alloc] at b2
 unfold Ent3 at h
 rw [← h] at b1 b2
 exact ⟨by rw [b1.cell]; rfl, by rw [b1.cell]; rfl, by rw [b2.cell]; rfl, by rw [b2.cell]; rfl⟩
theorem ent3_out {w W0 : World} {n0 n1 : Bool} {A A' : Option Addr} {n n' c c' : Nat} (h : Ent3 w W0 n0 n1 A A' n n' c c') : Blk W0 (w.heap.size + 1 + 1) 35 #[.bool false, .slice none 0 0] := by
 have b3 := (Blk.new ((w.alloc (.cells #[.bool n0, .slice A n c] 35)).alloc (.cells #[.bool n1, .slice A' n' c'] 35)) 35 #[.bool false, .slice none 0 0]).alloc (.cells #[.bool n0, .slice A n c, .bool n1, .slice A' n' c'] 35)
 rw [World.size_alloc, World.size_alloc] at b3
 unfold Ent3 at h
 rw [← h] at b3
 exact b3
theorem ent3_args {w W0 : World} {n0 n1 : Bool} {A A' : Option Addr} {n n' c c' : Nat} (h : Ent3 w W0 n0 n1 A A' n n' c c') : Blk W0 (w.heap.size + 1 + 1 + 1) 35 #[.bool n0, .slice A n c, .bool n1, .slice A' n' c'] := by
 have b4 := Blk.new (((w.alloc (.cells #[.bool n0, .slice A n c] 35)).alloc (.cells #[.bool n1, .slice A' n' c'] 35)).alloc (.cells #[.bool false, .slice none 0 0] 35)) 35 #[.bool n0, .slice A n c, .bool n1, .slice A' n' c']
 rw [World.size_alloc, World.size_alloc, World.size_alloc] at b4
 unfold Ent3 at h
 rw [← h] at b4
 exact b4
theorem ent3_below {w W0 : World} {n0 n1 : Bool} {A A' : Option Addr} {n n' c c' : Nat} (h : Ent3 w W0 n0 n1 A A' n n' c c') : Below w.heap.size w W0 := by
 rw [h]
 exact ((((Below.refl w.heap.size w).alloc (Nat.le_refl _) _).alloc (by simp) _).alloc (by simp; omega) _).alloc (by simp; omega) _
set_option maxRecDepth 100000 in
set_option maxHeartbeats 4000000 in
theorem Add_any (n0 n1 : Bool) (A A' : Option Addr) (n n' c c' : Nat) (xs ys : List Nat) (w : World) (h : R16 w A n c xs) (h' : R16 w A' n' c' ys) :
  Calls Tryz.prog 128 #[.agg #[.bool n0, .slice A n c], .agg #[.bool n1, .slice A' n' c']] w fun e w' => OutV w w' e (validB n0 xs && validB n1 ys) (sgn n0 (Lb.val xs) + sgn n1 (Lb.val ys)) := by
 obtain ⟨W0, hW0⟩ : ∃ W0, Ent3 w W0 n0 n1 A A' n n' c c' := ⟨_, rfl⟩
 have hsz := ent3_size hW0
 have HT := hide (ent3_two hW0)
 have HO := hide (ent3_out hW0)
 have HA := hide (ent3_args hW0)
 have HB := hide (ent3_below hW0)
 have HH := hide (h.below HB.out (Nat.le_refl _))
 have HH' := hide (h'.below HB.out (Nat.le_refl _))
 have HW0 := Lib.hid hW0
 have HV0 := hide (valid_limbs (neg := n0) h.ok)
 have HV1 := hide (valid_limbs (neg := n1) h'.ok)
 have hl := h.len
 have hl' := h'.len
 have HL := Lib.hid hl
 have HL' := Lib.hid hl'
 clear hW0 h h' hl hl'
 go_enter Tryz.func128, Tryz.ntmps128
 cases hv : validB n0 xs && validB n1 ys
 ·have HV := Lib.hid hv
  clear hv
  go_wp2_with (go_at_call 95; rw [← HW0.out]; refine (valid2_any _ _ _ _ _ _ _ _ _ _ _ xs ys _ HA.out HH.out HH'.out).mono ?_; rintro e w1 ⟨rfl, hb⟩; rw [HV.out]; have c1 := (HO.out.below hb (by omega)).cell 0; have c2 := (HO.out.below hb (by omega)).cell 1; have f1 := (HO.out.below hb (by omega)).frozen 0; have f2 := (HO.out.below hb (by omega)).frozen 1; have O1 := hide (HO.out.below hb (by omega)); have B1 := hide (HB.out.trans (hb.mono (by omega))); clear hb; simp only [List.getElem?_toArray, List.getElem?_cons_zero, List.getElem?_cons_succ] at c1 c2)
  refine bodyPost_ret (results_cellTmp rfl rfl rfl (load_whole ((O1.out.set_ 0 _).set_ 1 _))) rfl ?_
  exact ⟨rfl, (B1.out.setCell (by simp; omega) _).setCell (by simp; omega) _⟩
 ·have hv2 := hv
  simp only [Bool.and_eq_true] at hv2
  obtain ⟨e0, l0, _⟩ := HV0.out hv2.1
  obtain ⟨e1, l1, _⟩ := HV1.out hv2.2
  obtain ⟨a, rfl⟩ : ∃ a, xs = Lb.limbs a := ⟨_, e0⟩
  obtain ⟨b, rfl⟩ : ∃ b, ys = Lb.limbs b := ⟨_, e1⟩
  rw [HL.out] at l0
  rw [HL'.out] at l1
  have HV := Lib.hid hv
  clear hv hv2 e0 e1
  rw [Lb.val_limbs, Lb.val_limbs]
  go_wp2_with (first
   | (go_at_call 95; rw [← HW0.out]; refine (valid2_any _ _ _ _ _ _ _ _ _ _ _ (Lb.limbs a) (Lb.limbs b) _ HA.out HH.out HH'.out).mono ?_; rintro e w1 ⟨rfl, hb⟩; rw [HV.out]; obtain ⟨s1, s2, s3, s4⟩ := HT.out.below hb (by omega); have O1 := hide (HO.out.below hb (by omega)); have B1 := hide (HB.out.trans (hb.mono (by omega))); have X1 := hide (HH.out.below hb (Nat.le_refl _)); have Y1 := hide (HH'.out.below hb (Nat.le_refl _)); have hs1 := hb.size; clear hb)
   | (go_at_call 166; refine (sum_core _ _ _ _ _ _ _ _ a b _ X1.out Y1.out (by omega) (by omega)).mono ?_; rintro e w2 hO2; obtain ⟨x, A3, n3, d3, st, rfl, hb2, hfar⟩ := outw_far hO2 B1.out; have O2 := hide (O1.out.below hb2 (by omega)); have c1 := O2.out.cell 0; have c2 := O2.out.cell 1; have f1 := O2.out.frozen 0; have f2 := O2.out.frozen 1; have HF := hide hfar; clear hO2 hfar hb2; simp only [List.getElem?_toArray, List.getElem?_cons_zero, List.getElem?_cons_succ] at c1 c2))
  refine bodyPost_ret (results_cellTmp rfl rfl rfl (load_whole ((O2.out.set_ 0 _).set_ 1 _))) rfl ?_
  exact HF.out _ _ _ (by omega) (by omega)
end Go.Proofs.YtjbcalbbhomkjaaGreat
