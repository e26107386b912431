import Derived.Test.YtjbcalbbhomkjaaGreatEAdd2
import Derived.Test.YtjbcalbbhomkjaaGreatEDiv
namespace Go.Proofs.YtjbcalbbhomkjaaGreat
open Go.RowKit
def Ent4 (w W0 : World) (n0 n1 : Bool) (A A' : Option Addr) (n n' c c' : Nat) : Prop :=
 W0 = ((((w.alloc (.cells #[.bool n0, .slice A n c] 35)).alloc (.cells #[.bool n1, .slice A' n' c'] 35)).alloc (.cells #[.bool false, .slice none 0 0] 35)).alloc (.cells #[.bool false, .slice none 0 0] 35)).alloc (.cells #[.bool n0, .slice A n c, .bool n1, .slice A' n' c'] 35)
theorem ent4_size {w W0 : World} {n0 n1 : Bool} {A A' : Option Addr} {n n' c c' : Nat} (h : Ent4 w W0 n0 n1 A A' n n' c c') : W0.heap.size = w.heap.size + 1 + 1 + 1 + 1 + 1 := by rw [h]; simp
theorem ent4_two {w W0 : World} {n0 n1 : Bool} {A A' : Option Addr} {n n' c c' : Nat} (h : Ent4 w W0 n0 n1 A A' n n' c c') : Two w.heap.size n0 (.slice A n c) n1 (.slice A' n' c') W0 := by
 have b1 := ((((Blk.new w 35 #[.bool n0, .slice A n c]).alloc (.cells #[.bool n1, .slice A' n' c'] 35)).alloc (.cells #[.bool false, .slice none 0 0] 35)).alloc (.cells #[.bool false, .slice none 0 0] 35)).alloc (.cells #[.bool n0, .slice A n c, .bool n1, .slice A' n' c'] 35)
 have b2 := (((Blk.new (w.alloc (.cells #[.bool n0, .slice A n c] 35)) 35 #[.bool n1, .slice A' n' c']).alloc (.cells #[.bool false, .slice none 0 0] 35)).alloc (.cells #[.bool false, .slice none 0 0] 35)).alloc (.cells #[.bool n0, .slice A n c, .bool n1, .slice A' n' c'] 35)
 rw [World.size_alloc] at b2
 unfold Ent4 at h
 rw [← h] at b1 b2
 exact ⟨by rw [b1.cell]; rfl, by rw [b1.cell]; rfl, by rw [b2.cell]; rfl, by rw [b2.cell]; rfl⟩
theorem ent4_out {w W0 : World} {n0 n1 : Bool} {A A' : Option Addr} {n n' c c' : Nat} (h : Ent4 w W0 n0 n1 A A' n n' c c') : Blk W0 (w.heap.size + 1 + 1) 35 #[.bool false, .slice none 0 0] ∧ Blk W0 (w.heap.size + 1 + 1 + 1) 35 #[.bool false, .slice none 0 0] := by
 have b3 := ((Blk.new ((w.alloc (.cells #[.bool n0, .slice A n c] 35)).alloc (.cells #[.bool n1, .slice A' n' c'] 35)) 35 #[.bool false, .slice none 0 0]).alloc (.cells #[.bool false, .slice none 0 0] 35)).alloc (.cells #[.bool n0, .slice A n c, .bool n1, .slice A' n' c'] 35)
 have b4 := (Blk.new (((w.alloc (.cells #[.bool n0, .slice A n c] 35)).alloc (.cells #[.bool n1, .slice A' n' c'] 35)).alloc (.cells #[.bool false, .slice none 0 0] 35)) 35 #[.bool false, .slice none 0 0]).alloc (.cells #[.bool n0, .slice A n c, .bool n1, .slice A' n' c'] 35)
 rw [World.size_alloc, World.size_alloc] at b3
 rw [World.size_alloc, World.size_alloc, World.size_alloc] at b4
 unfold Ent4 at h
 rw [← h] at b3 b4
 exact ⟨b3, b4⟩
theorem ent4_args {w W0 : World} {n0 n1 : Bool} {A A' : Option Addr} {n n' c c' : Nat} (h : Ent4 w W0 n0 n1 A A' n n' c c') : Blk W0 (w.heap.size + 1 + 1 + 1 + 1) 35 #[.bool n0, .slice A n c, .bool n1, .slice A' n' c'] := by
 have b5 := Blk.new ((((w.alloc (.cells #[.bool n0, .slice A n c] 35)).alloc (.cells #[.bool n1, .slice A' n' c'] 35)).alloc (.cells #[.bool false, .slice none 0 0] 35)).alloc (.cells #[.bool false, .slice none 0 0] 35)) 35 #[.bool n0, .slice A n c, .bool n1, .slice A' n' c']
 rw [World.size_alloc, World.size_alloc, World.size_alloc, World.size_alloc] at b5
 unfold Ent4 at h
 rw [← h] at b5
 exact b5
theorem ent4_below {w W0 : World} {n0 n1 : Bool} {A A' : Option Addr} {n n' c c' : Nat} (h : Ent4 w W0 n0 n1 A A' n n' c c') : Below w.heap.size w W0 := by
 rw [h]
 exact (((((Below.refl w.heap.size w).alloc (Nat.le_refl _) _).alloc (by simp) _).alloc (by simp; omega) _).alloc (by simp; omega) _).alloc (by simp; omega) _
theorem wv_sgn (neg : Bool) (m : Nat) (A : Option Addr) (c : Nat) : Value.agg #[.bool (neg && decide (0 < (Lb.limbs m).length)), .slice A (Lb.limbs m).length c] = wv (sgn neg m) A c := by
 have e1 : (sgn neg m).natAbs = m := by unfold sgn; split <;> omega
 have e3 : (0 < (Lb.limbs m).length) ↔ m ≠ 0 := by
  constructor
  ·rintro h rfl; simp at h
  ·intro h
   rcases Nat.eq_zero_or_pos (Lb.limbs m).length with h0 | h0
   ·exact absurd (Lb.limbs_eq_nil.1 (List.eq_nil_of_length_eq_zero h0)) h
   ·exact h0
 have e2 : decide (sgn neg m < 0) = (neg && decide (0 < (Lb.limbs m).length)) := by
  cases neg
  ·simp [sgn]
  ·simp only [sgn, if_true, Bool.true_and, decide_eq_decide, e3]; omega
 unfold wv
 rw [e1, e2]
theorem div_key (a b : Nat) : (b : Int) * ((a / b : Nat) : Int) + ((a % b : Nat) : Int) = (a : Int) := by
 have := Nat.div_add_mod a b
 rw [← Int.natCast_mul, ← Int.natCast_add, this]
theorem fdiv_same (n : Bool) {a b : Nat} (hb : b ≠ 0) : (sgn n a).fdiv (sgn n b) = sgn false (a / b) ∧ (sgn n a).fmod (sgn n b) = sgn n (a % b) := by
 have hk := div_key a b
 have hr : a % b < b := Nat.mod_lt _ (by omega)
 generalize a / b = q at *
 generalize a % b = r at *
 cases n
 ·simp only [sgn, Bool.false_eq_true, if_false]
  exact (Int.fdiv_fmod_unique (by omega)).2 ⟨by omega, by omega, by omega⟩
 ·simp only [sgn, Bool.false_eq_true, if_false, if_true]
  refine (Int.fdiv_fmod_unique' (by omega)).2 ⟨?_, by omega, by omega⟩
  rw [Int.neg_mul]; omega
theorem fdiv_exact {n0 n1 : Bool} (h : (n0 == n1) = false) {a b : Nat} (hb : b ≠ 0) (hr : a % b = 0) : (sgn n0 a).fdiv (sgn n1 b) = sgn true (a / b) ∧ (sgn n0 a).fmod (sgn n1 b) = sgn n1 0 := by
 have hk := div_key a b
 rw [hr] at hk
 generalize a / b = q at *
 cases n0 <;> cases n1 <;> simp only [sgn, Bool.false_eq_true, if_false, if_true] at h ⊢
 ·simp at h
 ·refine (Int.fdiv_fmod_unique' (by omega)).2 ⟨?_, by omega, by omega⟩
  rw [Int.neg_mul, Int.mul_neg]; omega
 ·refine (Int.fdiv_fmod_unique (by omega)).2 ⟨?_, by omega, by omega⟩
  rw [Int.mul_neg]; omega
 ·simp at h
theorem fdiv_up {n0 n1 : Bool} (h : (n0 == n1) = false) {a b : Nat} (hb : b ≠ 0) (hr : a % b ≠ 0) : (sgn n0 a).fdiv (sgn n1 b) = sgn true (a / b + 1) ∧ (sgn n0 a).fmod (sgn n1 b) = sgn n1 (b - a % b) := by
 have hk := div_key a b
 have hlt : a % b < b := Nat.mod_lt _ (by omega)
 generalize a / b = q at *
 generalize a % b = r at *
 cases n0 <;> cases n1 <;> simp only [sgn, Bool.false_eq_true, if_false, if_true] at h ⊢
 ·simp at h
 ·refine (Int.fdiv_fmod_unique' (by omega)).2 ⟨?_, by omega, by omega⟩
  rw [Int.neg_mul, Int.mul_neg, Int.natCast_add, Int.mul_add]; omega
 ·refine (Int.fdiv_fmod_unique (by omega)).2 ⟨?_, by omega, by omega⟩
  rw [Int.mul_neg, Int.natCast_add, Int.mul_add]; omega
 ·simp at h
theorem results_cellCellTmp {P : Program} {fn : Func} {p q u : Tmp} {ty ty' : TypeId} {tmps : Array Value} {W : World} {a a' : Addr} {v v' x : Value} (h : fn.results = #[.cell p ty, .cell q ty', .tmp u]) (ht : tmps.getD p undef = .pointer (some a)) (ht' : tmps.getD q undef = .pointer (some a')) (hu : tmps.getD u undef = x)
  (hl : (loadVar ty a).run P W = .ok v W) (hl' : (loadVar ty' a').run P W = .ok v' W) : (results fn tmps).run P W = .ok (.tuple #[v, v', x]) W := by
 have e1 : tmps[p]?.getD undef = .pointer (some a) := by simpa using ht
 have e2 : tmps[q]?.getD undef = .pointer (some a') := by simpa using ht'
 have e3 : tmps[u]?.getD undef = x := by simpa using hu
 simp [results, h, e1, e2, e3, asAddr, hl, hl', Result.andThen]
def OutQ (w w' : World) (e : Ending) (x y : Int) : Prop :=
 ∃ A c A' c', e = .returned (.tuple #[wv x A c, wv y A' c', .int .i64 0]) ∧ R16 w' A (Lb.limbs x.natAbs).length c (Lb.limbs x.natAbs) ∧ R16 w' A' (Lb.limbs y.natAbs).length c' (Lb.limbs y.natAbs) ∧
  (∀ ad, A = some ad → w.heap.size ≤ ad.block) ∧ (∀ ad, A' = some ad → w.heap.size ≤ ad.block) ∧ Below w.heap.size w w'
def OutDM (w w' : World) (e : Ending) (ok : Bool) (x y : Int) : Prop :=
 if ok then (if y = 0 then e = .returned (.tuple #[zeroW, zeroW, .int .i64 11]) ∧ Below w.heap.size w w' else OutQ w w' e (x.fdiv y) (x.fmod y)) else e = .returned (.tuple #[zeroW, zeroW, .int .i64 2]) ∧ Below w.heap.size w w'
theorem dm_blks {W : World} {g : Nat} {t : TypeId} {a b a' b' u v u' v' : Value} (h : Blk W g t #[a, b]) (h' : Blk W (g + 1) t #[a', b']) :
  Blk ((((W.setCell ⟨g, 0, none⟩ u).setCell ⟨g, 1, none⟩ v).setCell ⟨g + 1, 0, none⟩ u').setCell ⟨g + 1, 1, none⟩ v') g t #[u, v] ∧ Blk ((((W.setCell ⟨g, 0, none⟩ u).setCell ⟨g, 1, none⟩ v).setCell ⟨g + 1, 0, none⟩ u').setCell ⟨g + 1, 1, none⟩ v') (g + 1) t #[u', v'] :=
 ⟨(((h.set_ 0 u).set_ 1 v).far (p := ⟨g + 1, 0, none⟩) (by simp) u').far (p := ⟨g + 1, 1, none⟩) (by simp) v', ((((h'.far (p := ⟨g, 0, none⟩) (by simp) u).far (p := ⟨g, 1, none⟩) (by simp) v).set_ 0 u').set_ 1 v')⟩
theorem dm_below {B g : Nat} {w W : World} (h : Below B w W) (hg : B ≤ g) (u v u' v' : Value) : Below B w ((((W.setCell ⟨g, 0, none⟩ u).setCell ⟨g, 1, none⟩ v).setCell ⟨g + 1, 0, none⟩ u').setCell ⟨g + 1, 1, none⟩ v') :=
 (((h.setCell hg _).setCell hg _).setCell (by simp; omega) _).setCell (by simp; omega) _
theorem dm_far {W : World} {g n c : Nat} {A : Option Addr} {xs : List Nat} (h : R16 W A n c xs) (hf : ∀ ad, A = some ad → g + 1 < ad.block) (u v u' v' : Value) : R16 ((((W.setCell ⟨g, 0, none⟩ u).setCell ⟨g, 1, none⟩ v).setCell ⟨g + 1, 0, none⟩ u').setCell ⟨g + 1, 1, none⟩ v') A n c xs :=
 (((h.far _ _ (fun ad e => by have := hf ad e; simp; omega)).far _ _ (fun ad e => by have := hf ad e; simp; omega)).far _ _ (fun ad e => by have := hf ad e; simp; omega)).far _ _ (fun ad e => by have := hf ad e; simp; omega)
theorem limbs_pos {m : Nat} (h : m ≠ 0) : 0 < (Lb.limbs m).length := by
 rcases Nat.eq_zero_or_pos (Lb.limbs m).length with h0 | h0
 ·exact absurd (Lb.limbs_eq_nil.1 (List.eq_nil_of_length_eq_zero h0)) h
 ·exact h0
theorem dm_end {w W : World} {g : Nat} {A A' : Option Addr} {m m' d d' : Nat} {neg neg' : Bool} {x y : Int} {u v u' v' st : Value} (hx : x = sgn neg m) (hy : y = sgn neg' m') (h : R16 W A (Lb.limbs m).length d (Lb.limbs m)) (h' : R16 W A' (Lb.limbs m').length d' (Lb.limbs m'))
  (hf : ∀ ad, A = some ad → g + 1 < ad.block) (hf' : ∀ ad, A' = some ad → g + 1 < ad.block) (hb : Below w.heap.size w W) (hg : w.heap.size ≤ g) (hu : Value.agg #[u, v] = .agg #[.bool (neg && decide (0 < (Lb.limbs m).length)), .slice A (Lb.limbs m).length d]) (hu' : Value.agg #[u', v'] = .agg #[.bool (neg' && decide (0 < (Lb.limbs m').length)), .slice A' (Lb.limbs m').length d']) (hst : st = .int .i64 0) :
  OutQ w ((((W.setCell ⟨g, 0, none⟩ u).setCell ⟨g, 1, none⟩ v).setCell ⟨g + 1, 0, none⟩ u').setCell ⟨g + 1, 1, none⟩ v') (.returned (.tuple #[.agg #[u, v], .agg #[u', v'], st])) x y := by
 have e1 : x.natAbs = m := by subst hx; unfold sgn; split <;> omega
 have e2 : y.natAbs = m' := by subst hy; unfold sgn; split <;> omega
 refine ⟨A, d, A', d', ?_, ?_, ?_, fun ad e => by have := hf ad e; omega, fun ad e => by have := hf' ad e; omega, dm_below hb hg _ _ _ _⟩
 ·rw [hu, hu', hst, wv_sgn, wv_sgn, hx, hy]
 ·rw [e1]; exact dm_far h hf _ _ _ _
 ·rw [e2]; exact dm_far h' hf' _ _ _ _
set_option maxRecDepth 100000 in
set_option maxHeartbeats 4000000 in
theorem DivMod_any (n0 n1 : Bool) (A A' : Option Addr) (n n' c c' : Nat) (xs ys : List Nat) (w : World) (h : R16 w A n c xs) (h' : R16 w A' n' c' ys) :
  Calls Tryz.prog 89 #[.agg #[.bool n0, .slice A n c], .agg #[.bool n1, .slice A' n' c']] w fun e w' => OutDM w w' e (validB n0 xs && validB n1 ys) (sgn n0 (Lb.val xs)) (sgn n1 (Lb.val ys)) := by
 obtain ⟨W0, hW0⟩ : ∃ W0, Ent4 w W0 n0 n1 A A' n n' c c' := ⟨_, rfl⟩
 have hsz := ent4_size hW0
 have HT := hide (ent4_two hW0)
 have HO := hide (ent4_out hW0)
 have HA := hide (ent4_args hW0)
 have HB := hide (ent4_below hW0)
 have HH := hide (h.below HB.out (Nat.le_refl _))
 have HH' := hide (h'.below HB.out (Nat.le_refl _))
 have HW0 := Lib.hid hW0
 have HV0 := hide (valid_limbs (neg := n0) h.ok)
 have HV1 := hide (valid_limbs (neg := n1) h'.ok)
 have hl := h.len
 have hl' := h'.len
 have HL := Lib.hid hl
 have HL' := Lib.hid hl'
 clear hW0 h h' hl hl'
 go_enter Tryz.func89, Tryz.ntmps89
 cases hv : validB n0 xs && validB n1 ys
 ·have HV := Lib.hid hv
  clear hv
  go_wp2_with (go_at_call 95; rw [← HW0.out]; refine (valid2_any _ _ _ _ _ _ _ _ _ _ _ xs ys _ HA.out HH.out HH'.out).mono ?_; rintro e w1 ⟨rfl, hb⟩; rw [HV.out]; obtain ⟨s1, s2, s3, s4⟩ := HT.out.below hb (by omega); have O1 := hide (HO.out.1.below hb (by omega)); have O2 := hide (HO.out.2.below hb (by omega)); have B1 := hide (HB.out.trans (hb.mono (by omega))); have X1 := hide (HH.out.below hb (Nat.le_refl _)); have Y1 := hide (HH'.out.below hb (Nat.le_refl _)); have hs1 := hb.size; clear hb; have c1 := O1.out.cell 0; have c2 := O1.out.cell 1; have f1 := O1.out.frozen 0; have f2 := O1.out.frozen 1; have c3 := O2.out.cell 0; have c4 := O2.out.cell 1; have f3 := O2.out.frozen 0; have f4 := O2.out.frozen 1; simp only [List.getElem?_toArray, List.getElem?_cons_zero, List.getElem?_cons_succ] at c1 c2 c3 c4)
  refine bodyPost_ret (results_cellCellTmp rfl rfl rfl rfl (load_whole (dm_blks O1.out O2.out).1) (load_whole (dm_blks O1.out O2.out).2)) rfl ?_
  exact ⟨rfl, dm_below B1.out (by omega) _ _ _ _⟩
 ·have hv2 := hv
  simp only [Bool.and_eq_true] at hv2
  obtain ⟨e0, l0, _⟩ := HV0.out hv2.1
  obtain ⟨e1, l1, _⟩ := HV1.out hv2.2
  obtain ⟨a, rfl⟩ : ∃ a, xs = Lb.limbs a := ⟨_, e0⟩
  obtain ⟨b, rfl⟩ : ∃ b, ys = Lb.limbs b := ⟨_, e1⟩
  rw [HL.out] at l0
  rw [HL'.out] at l1
  have HV := Lib.hid hv
  clear hv hv2 e0 e1 HV0 HV1
  rw [Lb.val_limbs, Lb.val_limbs]
  by_cases hb0 : b = 0
  ·have hy0 : sgn n1 b = 0 := by rw [hb0]; cases n1 <;> rfl
   have HY0 := Lib.hid hy0
   have hn0 : n' = 0 := by rw [← HL'.out, hb0]; rfl
   subst hn0
   clear hb0 hy0
   go_wp2_with (go_at_call 95; rw [← HW0.out]; go_loud (refine (valid2_any _ _ _ _ _ _ _ _ _ _ _ (Lb.limbs a) (Lb.limbs b) _ HA.out HH.out HH'.out).mono ?_); rintro e w1 ⟨rfl, hb⟩; rw [HV.out]; obtain ⟨s1, s2, s3, s4⟩ := HT.out.below hb (by omega); have O1 := hide (HO.out.1.below hb (by omega)); have O2 := hide (HO.out.2.below hb (by omega)); have B1 := hide (HB.out.trans (hb.mono (by omega))); have X1 := hide (HH.out.below hb (Nat.le_refl _)); have Y1 := hide (HH'.out.below hb (Nat.le_refl _)); have hs1 := hb.size; clear hb; have c1 := O1.out.cell 0; have c2 := O1.out.cell 1; have f1 := O1.out.frozen 0; have f2 := O1.out.frozen 1; have c3 := O2.out.cell 0; have c4 := O2.out.cell 1; have f3 := O2.out.frozen 0; have f4 := O2.out.frozen 1; simp only [List.getElem?_toArray, List.getElem?_cons_zero, List.getElem?_cons_succ] at c1 c2 c3 c4)
   refine bodyPost_ret (results_cellCellTmp rfl rfl rfl rfl (load_whole (dm_blks O1.out O2.out).1) (load_whole (dm_blks O1.out O2.out).2)) rfl ?_
   unfold OutDM
   rw [if_pos rfl, if_pos HY0.out]
   exact ⟨rfl, dm_below B1.out (by omega) _ _ _ _⟩
  ·have hy0 : ¬ sgn n1 b = 0 := by cases n1 <;> simp [sgn] <;> omega
   have HY0 := Lib.hid hy0
   clear hy0
   have hn1 : 0 < n' := by rw [← HL'.out]; exact limbs_pos hb0
   by_cases hs : n0 = n1
   ·subst hs
    obtain ⟨q1, q2⟩ := fdiv_same n0 (a := a) hb0
    have Q1 := Lib.hid q1
    have Q2 := Lib.hid q2
    have HB0 := Lib.hid hb0
    clear q1 q2 hb0
    cases n0
    all_goals
     go_wp2_with (first
      | (go_at_call 95; rw [← HW0.out]; refine (valid2_any _ _ _ _ _ _ _ _ _ _ _ (Lb.limbs a) (Lb.limbs b) _ HA.out HH.out HH'.out).mono ?_; rintro e w1 ⟨rfl, hb⟩; rw [HV.out]; obtain ⟨s1, s2, s3, s4⟩ := HT.out.below hb (by omega); have O1 := hide (HO.out.1.below hb (by omega)); have O2 := hide (HO.out.2.below hb (by omega)); have B1 := hide (HB.out.trans (hb.mono (by omega))); have X1 := hide (HH.out.below hb (Nat.le_refl _)); have Y1 := hide (HH'.out.below hb (Nat.le_refl _)); have hs1 := hb.size; clear hb)
      | (go_at_call 124; refine (div_any _ _ _ _ _ _ a b _ X1.out Y1.out HB0.out (by omega) (by omega)).mono ?_; rintro e w2 ⟨A2, d2, A3, d3, rfl, k1, k2, k3, k4, k5⟩; obtain ⟨s1, s2, s3, s4⟩ := Two.below (B := w.heap.size) ⟨s1, s2, s3, s4⟩ k5 (by omega); replace O1 := hide (O1.out.below k5 (by omega)); replace O2 := hide (O2.out.below k5 (by omega)); have B2 := hide (B1.out.trans (k5.mono (by omega))); have K1 := hide k1; have K2 := hide k2; have K3 := hide (fun ad e => Nat.le_trans hs1 (k3 ad e)); have K4 := hide (fun ad e => Nat.le_trans hs1 (k4 ad e)); have Y2 := hide (Y1.out.below k5 (Nat.le_refl _)); have hs2 := k5.size; clear k1 k2 k3 k4 k5; have c1 := O1.out.cell 0; have c2 := O1.out.cell 1; have f1 := O1.out.frozen 0; have f2 := O1.out.frozen 1; have c3 := O2.out.cell 0; have c4 := O2.out.cell 1; have f3 := O2.out.frozen 0; have f4 := O2.out.frozen 1; simp only [List.getElem?_toArray, List.getElem?_cons_zero, List.getElem?_cons_succ] at c1 c2 c3 c4))
     refine bodyPost_ret (results_cellCellTmp rfl rfl rfl rfl (load_whole (dm_blks O1.out O2.out).1) (load_whole (dm_blks O1.out O2.out).2)) rfl ?_
     unfold OutDM
     rw [if_pos rfl, if_neg HY0.out]
     refine dm_end Q1.out Q2.out K1.out K2.out (fun ad e => by have := K3.out ad e; omega) (fun ad e => by have := K4.out ad e; omega) B2.out (by omega) (by simp) (by simp) rfl
   ·have hs' : (n0 == n1) = false := by cases n0 <;> cases n1 <;> simp at hs ⊢
    by_cases hr0 : a % b = 0
    ·obtain ⟨q1, q2⟩ := fdiv_exact hs' hb0 hr0
     have Q1 := Lib.hid q1
     have Q2 := Lib.hid q2
     have HB0 := Lib.hid hb0
     have HR0 := Lib.hid hr0
     clear q1 q2 hb0 hr0 hs'
     cases n0 <;> cases n1
     ·exact absurd rfl hs
     ·clear hs
      go_wp2_with (first
       | (go_at_call 95; rw [← HW0.out]; refine (valid2_any _ _ _ _ _ _ _ _ _ _ _ (Lb.limbs a) (Lb.limbs b) _ HA.out HH.out HH'.out).mono ?_; rintro e w1 ⟨rfl, hb⟩; rw [HV.out]; obtain ⟨s1, s2, s3, s4⟩ := HT.out.below hb (by omega); have O1 := hide (HO.out.1.below hb (by omega)); have O2 := hide (HO.out.2.below hb (by omega)); have B1 := hide (HB.out.trans (hb.mono (by omega))); have X1 := hide (HH.out.below hb (Nat.le_refl _)); have Y1 := hide (HH'.out.below hb (Nat.le_refl _)); have hs1 := hb.size; clear hb)
       | (go_at_call 124; refine (div_any _ _ _ _ _ _ a b _ X1.out Y1.out HB0.out (by omega) (by omega)).mono ?_; rintro e w2 ⟨A2, d2, A3, d3, he, k1, k2, k3, k4, k5⟩; rw [HR0.out] at he k2; subst he; obtain ⟨s1, s2, s3, s4⟩ := Two.below (B := w.heap.size) ⟨s1, s2, s3, s4⟩ k5 (by omega); replace O1 := hide (O1.out.below k5 (by omega)); replace O2 := hide (O2.out.below k5 (by omega)); have B2 := hide (B1.out.trans (k5.mono (by omega))); have K1 := hide k1; have K2 := hide k2; have K3 := hide (fun ad e => Nat.le_trans hs1 (k3 ad e)); have K4 := hide (fun ad e => Nat.le_trans hs1 (k4 ad e)); have Y2 := hide (Y1.out.below k5 (Nat.le_refl _)); have hs2 := k5.size; clear k1 k2 k3 k4 k5; have c1 := O1.out.cell 0; have c2 := O1.out.cell 1; have f1 := O1.out.frozen 0; have f2 := O1.out.frozen 1; have c3 := O2.out.cell 0; have c4 := O2.out.cell 1; have f3 := O2.out.frozen 0; have f4 := O2.out.frozen 1; simp only [List.getElem?_toArray, List.getElem?_cons_zero, List.getElem?_cons_succ] at c1 c2 c3 c4))
      refine bodyPost_ret (results_cellCellTmp rfl rfl rfl rfl (load_whole (dm_blks O1.out O2.out).1) (load_whole (dm_blks O1.out O2.out).2)) rfl ?_
      unfold OutDM
      rw [if_pos rfl, if_neg HY0.out]
      refine dm_end Q1.out Q2.out K1.out K2.out (fun ad e => by have := K3.out ad e; omega) (fun ad e => by have := K4.out ad e; omega) B2.out (by omega) (by simp) (by simp) rfl
     ·clear hs
      go_wp2_with (first
       | (go_at_call 95; rw [← HW0.out]; refine (valid2_any _ _ _ _ _ _ _ _ _ _ _ (Lb.limbs a) (Lb.limbs b) _ HA.out HH.out HH'.out).mono ?_; rintro e w1 ⟨rfl, hb⟩; rw [HV.out]; obtain ⟨s1, s2, s3, s4⟩ := HT.out.below hb (by omega); have O1 := hide (HO.out.1.below hb (by omega)); have O2 := hide (HO.out.2.below hb (by omega)); have B1 := hide (HB.out.trans (hb.mono (by omega))); have X1 := hide (HH.out.below hb (Nat.le_refl _)); have Y1 := hide (HH'.out.below hb (Nat.le_refl _)); have hs1 := hb.size; clear hb)
       | (go_at_call 124; refine (div_any _ _ _ _ _ _ a b _ X1.out Y1.out HB0.out (by omega) (by omega)).mono ?_; rintro e w2 ⟨A2, d2, A3, d3, he, k1, k2, k3, k4, k5⟩; rw [HR0.out] at he k2; subst he; obtain ⟨s1, s2, s3, s4⟩ := Two.below (B := w.heap.size) ⟨s1, s2, s3, s4⟩ k5 (by omega); replace O1 := hide (O1.out.below k5 (by omega)); replace O2 := hide (O2.out.below k5 (by omega)); have B2 := hide (B1.out.trans (k5.mono (by omega))); have K1 := hide k1; have K2 := hide k2; have K3 := hide (fun ad e => Nat.le_trans hs1 (k3 ad e)); have K4 := hide (fun ad e => Nat.le_trans hs1 (k4 ad e)); have Y2 := hide (Y1.out.below k5 (Nat.le_refl _)); have hs2 := k5.size; clear k1 k2 k3 k4 k5; have c1 := O1.out.cell 0; have c2 := O1.out.cell 1; have f1 := O1.out.frozen 0; have f2 := O1.out.frozen 1; have c3 := O2.out.cell 0; have c4 := O2.out.cell 1; have f3 := O2.out.frozen 0; have f4 := O2.out.frozen 1; simp only [List.getElem?_toArray, List.getElem?_cons_zero, List.getElem?_cons_succ] at c1 c2 c3 c4))
      refine bodyPost_ret (results_cellCellTmp rfl rfl rfl rfl (load_whole (dm_blks O1.out O2.out).1) (load_whole (dm_blks O1.out O2.out).2)) rfl ?_
      unfold OutDM
      rw [if_pos rfl, if_neg HY0.out]
      refine dm_end Q1.out Q2.out K1.out K2.out (fun ad e => by have := K3.out ad e; omega) (fun ad e => by have := K4.out ad e; omega) B2.out (by omega) (by simp) (by simp) rfl
     ·exact absurd rfl hs
    ·obtain ⟨q1, q2⟩ := fdiv_up hs' hb0 hr0
     have Q1 := Lib.hid q1
     have Q2 := Lib.hid q2
     have HB0 := Lib.hid hb0
     have hp := limbs_pos hr0
     have hrb : a % b < b := Nat.mod_lt _ (by omega)
     have hql := Lb.limbs_length_mono (Nat.div_le_self a b)
     have hrl := Lb.limbs_length_mono (Nat.le_of_lt hrb)
     rw [HL.out] at hql
     rw [HL'.out] at hrl
     have HRB := Lib.hid hrb
     clear q1 q2 hb0 hr0 hs' hrb
     cases n0 <;> cases n1
     ·exact absurd rfl hs
     ·clear hs
      go_wp2_with (first
       | (go_at_call 95; rw [← HW0.out]; refine (valid2_any _ _ _ _ _ _ _ _ _ _ _ (Lb.limbs a) (Lb.limbs b) _ HA.out HH.out HH'.out).mono ?_; rintro e w1 ⟨rfl, hb⟩; rw [HV.out]; obtain ⟨s1, s2, s3, s4⟩ := HT.out.below hb (by omega); have O1 := hide (HO.out.1.below hb (by omega)); have O2 := hide (HO.out.2.below hb (by omega)); have B1 := hide (HB.out.trans (hb.mono (by omega))); have X1 := hide (HH.out.below hb (Nat.le_refl _)); have Y1 := hide (HH'.out.below hb (Nat.le_refl _)); have hs1 := hb.size; clear hb)
       | (go_at_call 124; refine (div_any _ _ _ _ _ _ a b _ X1.out Y1.out HB0.out (by omega) (by omega)).mono ?_; rintro e w2 ⟨A2, d2, A3, d3, rfl, k1, k2, k3, k4, k5⟩; obtain ⟨s1, s2, s3, s4⟩ := Two.below (B := w.heap.size) ⟨s1, s2, s3, s4⟩ k5 (by omega); replace O1 := hide (O1.out.below k5 (by omega)); replace O2 := hide (O2.out.below k5 (by omega)); have B2 := hide (B1.out.trans (k5.mono (by omega))); have K1 := hide k1; have K2 := hide k2; have K3 := hide (fun ad e => Nat.le_trans hs1 (k3 ad e)); have K4 := hide (fun ad e => Nat.le_trans hs1 (k4 ad e)); have Y2 := hide (Y1.out.below k5 (Nat.le_refl _)); have hs2 := k5.size; clear k1 k2 k3 k4 k5))
      refine wp_region_heldN (Two w.heap.size false (.slice A n c) true (.slice A' n' c')) 9 #[false, false, false, false, false, false, false, false, false] rfl rfl (by kernel_rfl) ?_
      have hS : Two w.heap.size false (.slice A n c) true (.slice A' n' c') w2.drew := ⟨s1, s2, s3, s4⟩
      refine takeH 0 42 rfl rfl (by kernel_rfl) (by kernel_rfl) (by kernel_rfl) rfl hS (by rintro w9 ⟨s1, s2, s3, s4⟩; go_simp; with_reducible rfl) ?_
      simp only [List.setIfInBounds_toArray, List.set_cons_zero, List.set_cons_succ]
      refine takeH 3 45 rfl rfl (by kernel_rfl) (by kernel_rfl) (by kernel_rfl) rfl hS (by rintro w9 ⟨s1, s2, s3, s4⟩; go_simp; with_reducible rfl) ?_
      simp only [List.setIfInBounds_toArray, List.set_cons_zero, List.set_cons_succ]
      refine takeH 4 46 rfl rfl (by kernel_rfl) (by kernel_rfl) (by kernel_rfl) rfl hS (by rintro w9 ⟨s1, s2, s3, s4⟩; go_simp; with_reducible rfl) ?_
      simp only [List.setIfInBounds_toArray, List.set_cons_zero, List.set_cons_succ]
      refine takeH 5 47 rfl rfl (by kernel_rfl) (by kernel_rfl) (by kernel_rfl) rfl hS (by rintro w9 ⟨s1, s2, s3, s4⟩; go_simp; with_reducible rfl) ?_
      simp only [List.setIfInBounds_toArray, List.set_cons_zero, List.set_cons_succ]
      refine onlyH 1 rfl (by kernel_rfl) rfl ?_
      go_simp
      have hbA := ((Below.refl w2.heap.size w2).alloc (Nat.le_refl _) (.cells #[.int .u16 1] 51)).drew
      have hR1 : R16 (w2.alloc (.cells #[.int .u16 1] 51)).drew (some ⟨w2.heap.size, 0, none⟩) 1 1 (Lb.limbs 1) := (R16.mk (xs := [1]) (Rd.one w2 (u16 1) 51) (Lb.ok_limbs 1)).below (Below.refl _ _).drew (Nat.le_refl _)
      have hSA : Two w.heap.size false (.slice A n c) true (.slice A' n' c') (w2.alloc (.cells #[.int .u16 1] 51)).drew := hS.below (((Below.refl w2.heap.size w2.drew).alloc (Nat.le_refl _) (.cells #[.int .u16 1] 51))) (by omega)
      have hszA : (w2.alloc (.cells #[.int .u16 1] 51)).drew.heap.size = w2.heap.size + 1 := by show (w2.alloc _).heap.size = _; simp
      refine ⟨hSA, onlyH 2 rfl (by kernel_rfl) rfl ?_⟩
      go_simp
      refine (add_any _ _ _ _ _ _ (a / b) 1 _ (K1.out.below hbA (Nat.le_refl _)) hR1 (by omega) (by omega)).mono ?_
      rintro e w3 ⟨A4, d4, rfl, h4, h5, h6⟩
      have hSB := hSA.below h6 (by omega)
      refine ⟨hSB, onlyH 6 rfl (by kernel_rfl) rfl ?_⟩
      go_simp
      refine (sub_any _ _ _ _ _ _ b (a % b) _ ((Y2.out.below hbA (Nat.le_refl _)).below h6 (Nat.le_refl _)) ((K2.out.below hbA (Nat.le_refl _)).below h6 (Nat.le_refl _)) (Nat.le_of_lt HRB.out) (by omega)).mono ?_
      rintro e w4 ⟨A5, d5, rfl, h7, h8, h9⟩
      have hSC := hSB.below h9 (by have := h6.size; omega)
      refine ⟨hSC, ?_⟩
      refine takeH 7 7 rfl rfl (by kernel_rfl) (by kernel_rfl) (by kernel_rfl) rfl hSC (by rintro w9 ⟨s1, s2, s3, s4⟩; go_simp; with_reducible rfl) ?_
      simp only [List.setIfInBounds_toArray, List.set_cons_zero, List.set_cons_succ]
      refine takeH 8 8 rfl rfl (by kernel_rfl) (by kernel_rfl) (by kernel_rfl) rfl hSC (by rintro w9 ⟨s1, s2, s3, s4⟩; go_simp; with_reducible rfl) ?_
      simp only [List.setIfInBounds_toArray, List.set_cons_zero, List.set_cons_succ]
      refine wpAnyH_done (by kernel_rfl) (onlyN_intro ?_) _
      obtain ⟨s1, s2, s3, s4⟩ := hSC
      have hw3 := h6.size
      have hw4 := h9.size
      replace O1 := hide (((O1.out.below hbA (by omega)).below h6 (by omega)).below h9 (by omega))
      replace O2 := hide (((O2.out.below hbA (by omega)).below h6 (by omega)).below h9 (by omega))
      have B4 := hide (((B2.out.trans (hbA.mono (by omega))).trans (h6.mono (by omega))).trans (h9.mono (by omega)))
      have K5 := hide (h4.below h9 (Nat.le_refl _))
      have K6 := hide h7
      have F5 := hide (fun ad e => Nat.le_trans (by omega : w.heap.size + 5 ≤ (w2.alloc (.cells #[.int .u16 1] 51)).drew.heap.size) (h5 ad e))
      have F6 := hide (fun ad e => Nat.le_trans (by omega : w.heap.size + 5 ≤ w3.heap.size) (h8 ad e))
      have c1 := O1.out.cell 0
      have c2 := O1.out.cell 1
      have f1 := O1.out.frozen 0
      have f2 := O1.out.frozen 1
      have c3 := O2.out.cell 0
      have c4 := O2.out.cell 1
      have f3 := O2.out.frozen 0
      have f4 := O2.out.frozen 1
      simp only [List.getElem?_toArray, List.getElem?_cons_zero, List.getElem?_cons_succ] at c1 c2 c3 c4
      clear h4 h5 h6 h7 h8 h9 hSA hSB hS hR1 hbA
      go_wp2
      refine bodyPost_ret (results_cellCellTmp rfl rfl rfl rfl (load_whole (dm_blks O1.out O2.out).1) (load_whole (dm_blks O1.out O2.out).2)) rfl ?_
      unfold OutDM
      rw [if_pos rfl, if_neg HY0.out]
      refine dm_end Q1.out Q2.out K5.out K6.out (fun ad e => by have := F5.out ad e; omega) (fun ad e => by have := F6.out ad e; omega) B4.out (by omega) (by simp) (by simp) rfl
     ·clear hs
      go_wp2_with (first
       | (go_at_call 95; rw [← HW0.out]; refine (valid2_any _ _ _ _ _ _ _ _ _ _ _ (Lb.limbs a) (Lb.limbs b) _ HA.out HH.out HH'.out).mono ?_; rintro e w1 ⟨rfl, hb⟩; rw [HV.out]; obtain ⟨s1, s2, s3, s4⟩ := HT.out.below hb (by omega); have O1 := hide (HO.out.1.below hb (by omega)); have O2 := hide (HO.out.2.below hb (by omega)); have B1 := hide (HB.out.trans (hb.mono (by omega))); have X1 := hide (HH.out.below hb (Nat.le_refl _)); have Y1 := hide (HH'.out.below hb (Nat.le_refl _)); have hs1 := hb.size; clear hb)
       | (go_at_call 124; refine (div_any _ _ _ _ _ _ a b _ X1.out Y1.out HB0.out (by omega) (by omega)).mono ?_; rintro e w2 ⟨A2, d2, A3, d3, rfl, k1, k2, k3, k4, k5⟩; obtain ⟨s1, s2, s3, s4⟩ := Two.below (B := w.heap.size) ⟨s1, s2, s3, s4⟩ k5 (by omega); replace O1 := hide (O1.out.below k5 (by omega)); replace O2 := hide (O2.out.below k5 (by omega)); have B2 := hide (B1.out.trans (k5.mono (by omega))); have K1 := hide k1; have K2 := hide k2; have K3 := hide (fun ad e => Nat.le_trans hs1 (k3 ad e)); have K4 := hide (fun ad e => Nat.le_trans hs1 (k4 ad e)); have Y2 := hide (Y1.out.below k5 (Nat.le_refl _)); have hs2 := k5.size; clear k1 k2 k3 k4 k5))
      refine wp_region_heldN (Two w.heap.size true (.slice A n c) false (.slice A' n' c')) 9 #[false, false, false, false, false, false, false, false, false] rfl rfl (by kernel_rfl) ?_
      have hS : Two w.heap.size true (.slice A n c) false (.slice A' n' c') w2.drew := ⟨s1, s2, s3, s4⟩
      refine takeH 0 42 rfl rfl (by kernel_rfl) (by kernel_rfl) (by kernel_rfl) rfl hS (by rintro w9 ⟨s1, s2, s3, s4⟩; go_simp; with_reducible rfl) ?_
      simp only [List.setIfInBounds_toArray, List.set_cons_zero, List.set_cons_succ]
      refine takeH 3 45 rfl rfl (by kernel_rfl) (by kernel_rfl) (by kernel_rfl) rfl hS (by rintro w9 ⟨s1, s2, s3, s4⟩; go_simp; with_reducible rfl) ?_
      simp only [List.setIfInBounds_toArray, List.set_cons_zero, List.set_cons_succ]
      refine takeH 4 46 rfl rfl (by kernel_rfl) (by kernel_rfl) (by kernel_rfl) rfl hS (by rintro w9 ⟨s1, s2, s3, s4⟩; go_simp; with_reducible rfl) ?_
      simp only [List.setIfInBounds_toArray, List.set_cons_zero, List.set_cons_succ]
      refine takeH 5 47 rfl rfl (by kernel_rfl) (by kernel_rfl) (by kernel_rfl) rfl hS (by rintro w9 ⟨s1, s2, s3, s4⟩; go_simp; with_reducible rfl) ?_
      simp only [List.setIfInBounds_toArray, List.set_cons_zero, List.set_cons_succ]
      refine onlyH 1 rfl (by kernel_rfl) rfl ?_
      go_simp
      have hbA := ((Below.refl w2.heap.size w2).alloc (Nat.le_refl _) (.cells #[.int .u16 1] 51)).drew
      have hR1 : R16 (w2.alloc (.cells #[.int .u16 1] 51)).drew (some ⟨w2.heap.size, 0, none⟩) 1 1 (Lb.limbs 1) := (R16.mk (xs := [1]) (Rd.one w2 (u16 1) 51) (Lb.ok_limbs 1)).below (Below.refl _ _).drew (Nat.le_refl _)
      have hSA : Two w.heap.size true (.slice A n c) false (.slice A' n' c') (w2.alloc (.cells #[.int .u16 1] 51)).drew := hS.below (((Below.refl w2.heap.size w2.drew).alloc (Nat.le_refl _) (.cells #[.int .u16 1] 51))) (by omega)
      have hszA : (w2.alloc (.cells #[.int .u16 1] 51)).drew.heap.size = w2.heap.size + 1 := by show (w2.alloc _).heap.size = _; simp
      refine ⟨hSA, onlyH 2 rfl (by kernel_rfl) rfl ?_⟩
      go_simp
      refine (add_any _ _ _ _ _ _ (a / b) 1 _ (K1.out.below hbA (Nat.le_refl _)) hR1 (by omega) (by omega)).mono ?_
      rintro e w3 ⟨A4, d4, rfl, h4, h5, h6⟩
      have hSB := hSA.below h6 (by omega)
      refine ⟨hSB, onlyH 6 rfl (by kernel_rfl) rfl ?_⟩
      go_simp
      refine (sub_any _ _ _ _ _ _ b (a % b) _ ((Y2.out.below hbA (Nat.le_refl _)).below h6 (Nat.le_refl _)) ((K2.out.below hbA (Nat.le_refl _)).below h6 (Nat.le_refl _)) (Nat.le_of_lt HRB.out) (by omega)).mono ?_
      rintro e w4 ⟨A5, d5, rfl, h7, h8, h9⟩
      have hSC := hSB.below h9 (by have := h6.size; omega)
      refine ⟨hSC, ?_⟩
      refine takeH 7 7 rfl rfl (by kernel_rfl) (by kernel_rfl) (by kernel_rfl) rfl hSC (by rintro w9 ⟨s1, s2, s3, s4⟩; go_simp; with_reducible rfl) ?_
      simp only [List.setIfInBounds_toArray, List.set_cons_zero, List.set_cons_succ]
      refine takeH 8 8 rfl rfl (by kernel_rfl) (by kernel_rfl) (by kernel_rfl) rfl hSC (by rintro w9 ⟨s1, s2, s3, s4⟩; go_simp; with_reducible rfl) ?_
      simp only [List.setIfInBounds_toArray, List.set_cons_zero, List.set_cons_succ]
      refine wpAnyH_done (by kernel_rfl) (onlyN_intro ?_) _
      obtain ⟨s1, s2, s3, s4⟩ := hSC
      have hw3 := h6.size
      have hw4 := h9.size
      replace O1 := hide (((O1.out.below hbA (by omega)).below h6 (by omega)).below h9 (by omega))
      replace O2 := hide (((O2.out.below hbA (by omega)).below h6 (by omega)).below h9 (by omega))
      have B4 := hide (((B2.out.trans (hbA.mono (by omega))).trans (h6.mono (by omega))).trans (h9.mono (by omega)))
      have K5 := hide (h4.below h9 (Nat.le_refl _))
      have K6 := hide h7
      have F5 := hide (fun ad e => Nat.le_trans (by omega : w.heap.size + 5 ≤ (w2.alloc (.cells #[.int .u16 1] 51)).drew.heap.size) (h5 ad e))
      have F6 := hide (fun ad e => Nat.le_trans (by omega : w.heap.size + 5 ≤ w3.heap.size) (h8 ad e))
      have c1 := O1.out.cell 0
      have c2 := O1.out.cell 1
      have f1 := O1.out.frozen 0
      have f2 := O1.out.frozen 1
      have c3 := O2.out.cell 0
      have c4 := O2.out.cell 1
      have f3 := O2.out.frozen 0
      have f4 := O2.out.frozen 1
      simp only [List.getElem?_toArray, List.getElem?_cons_zero, List.getElem?_cons_succ] at c1 c2 c3 c4
      clear h4 h5 h6 h7 h8 h9 hSA hSB hS hR1 hbA
      go_wp2
      refine bodyPost_ret (results_cellCellTmp rfl rfl rfl rfl (load_whole (dm_blks O1.out O2.out).1) (load_whole (dm_blks O1.out O2.out).2)) rfl ?_
      unfold OutDM
      rw [if_pos rfl, if_neg HY0.out]
      refine dm_end Q1.out Q2.out K5.out K6.out (fun ad e => by have := F5.out ad e; omega) (fun ad e => by have := F6.out ad e; omega) B4.out (by omega) (by simp) (by simp) rfl
     ·exact absurd rfl hs
end Go.Proofs.YtjbcalbbhomkjaaGreat
