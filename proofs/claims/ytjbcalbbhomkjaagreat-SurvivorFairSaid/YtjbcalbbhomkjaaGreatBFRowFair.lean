/- PROVED: SurvivorFair answers true for every amount and every list of claims, and leaves its arguments as they were. No condition. -/
import Derived.Test.YtjbcalbbhomkjaaGreatBZ4
namespace Go.Proofs.YtjbcalbbhomkjaaGreat
open Go.RowKit
attribute [local irreducible] RI.frame RI.act RI.Ob RI.Tail RI.out V.Wp V.Fn Oper.wp
abbrev BoolC (b : Bool) : List Value := [.bool b]
theorem nl_bools (l : List Bool) : (((l.map BoolC).flatten ++ []).toArray).all noLimb = true := by
  rw [← Array.all_toList, List.toList_toArray, List.append_nil, List.all_flatten, List.all_map, List.all_eq_true]
  intro x _; rfl
theorem cmp_gt_int {p z : Int} : decide ((0 : Int) < Q.cmp ((p : Int) : Rat) ((z : Int) : Rat)) = decide (z < p) := by
  unfold Q.cmp
  rcases Int.lt_trichotomy p z with h | h | h
  · rw [if_pos (Rat.intCast_lt_intCast.2 h), decide_eq_false (by omega : ¬ z < p)]; rfl
  · subst h; rw [if_neg Rat.lt_irrefl, if_pos rfl, decide_eq_false (by omega : ¬ p < p)]; rfl
  · have h1 : ((z : Int) : Rat) < ((p : Int) : Rat) := Rat.intCast_lt_intCast.2 h
    rw [if_neg (fun h2 => by grind), if_neg (fun h2 => by grind), decide_eq_true h]; rfl
theorem PartsOf.got {a : Int} {l : List Cl} {t : Rat} {ys : List Nat} {m : Nat} {rs : List Int} (h : PartsOf a l t ys m rs) {j : Nat} {x : Cl} {e : Rat} {p : Int} (hx : l[j]? = some x) (he : e = min ((x.cap : Int) : Rat) (t * x.w.q)) (hp : rs[j]? = some p) : decide (fl e < p) = decide (j ∈ ys.take m) ∧ rest t l j = e - ((fl e : Int) : Rat) := by
  have h1 := h.at_ hx
  rw [← he, hp] at h1
  refine ⟨?_, by unfold rest; rw [ev_at hx, ← he]; rfl⟩
  by_cases hi : j ∈ ys.take m
  · rw [if_pos hi] at h1; cases h1; rw [decide_eq_true hi]; exact decide_eq_true (by omega)
  · rw [if_neg hi] at h1; cases h1; rw [decide_eq_false hi]; exact decide_eq_false (by omega)
theorem no_rest {g : Bool} {q : Rat} (h : g = true → 0 < q) : (g && ((((Lb.limbs (Q.m q)).length : Int)) == (0 : Int))) = false := by
  rw [Q.num_len]
  cases g with
  | false => rfl
  | true => rw [decide_eq_false (show ¬ q = 0 by have := h rfl; grind)]; rfl
theorem fair_no {b1 b2 : Bool} {q1 q2 : Rat} {i k : Nat} (h : b1 = true → b2 = false → q2 < q1 ∨ (q2 = q1 ∧ i < k)) : ((b1 && (!b2)) && ((decide (Q.cmp q1 q2 < 0)) || ((Q.cmp q1 q2 == (0 : Int)) && (decide ((k : Int) < (i : Int)))))) = false := by
  cases b1 with
  | false => rfl
  | true =>
    cases b2 with
    | true => rfl
    | false =>
      unfold Q.cmp
      rcases h rfl rfl with h1 | ⟨h1, h2⟩
      · rw [if_neg (fun h2 => by grind), if_neg (fun h2 => by grind)]; rfl
      · subst h1; rw [if_neg Rat.lt_irrefl, if_pos rfl, decide_eq_false (show ¬ (k : Int) < (i : Int) by omega)]; rfl
theorem fill_at {acc : List Fr} {z : Fr} {n i : Nat} (h : acc.length = i) : (((acc ++ [z]).map Fr.cells) ++ List.replicate n zF)[i]? = some z.cells := by
  subst h
  rw [List.getElem?_append_left (by simp), List.getElem?_map, List.getElem?_append_right (Nat.le_refl _), Nat.sub_self]; rfl
theorem snoc_rest {t : Rat} {l : List Cl} {acc : List Fr} {z : Fr} {i : Nat} (h : ∀ j y, acc[j]? = some y → y.q = rest t l j) (ha : acc.length = i) (hz : z.q = rest t l i) : ∀ j y, (acc ++ [z])[j]? = some y → y.q = rest t l j := by
  intro j y hy
  rcases Nat.lt_or_ge j acc.length with h1 | h1
  · rw [List.getElem?_append_left h1] at hy; exact h j y hy
  · rw [List.getElem?_append_right h1] at hy
    have h2 := (List.getElem?_eq_some_iff.1 hy).1
    have h3 : j = acc.length := by simp at h2; omega
    subst h3
    rw [Nat.sub_self] at hy
    have : z = y := by simpa using hy
    rw [← this, hz, ha]
theorem set_got {p : Nat → Bool} {bs : List Bool} {i : Nat} (h : ∀ j, j < i → bs[j]? = some (p j)) (hi : i < bs.length) {g : Bool} (hg : g = p i) : ∀ j, j < i + 1 → (bs.set i g)[j]? = some (p j) := by
  intro j hj
  by_cases e : j = i
  · subst e; rw [List.getElem?_set_self hi, hg]
  · rw [List.getElem?_set_ne (Ne.symm e)]; exact h j (by omega)
set_option maxRecDepth 20000 in
set_option maxHeartbeats 2000000 in
theorem fair_no_ {A : Option Addr} {c : Nat} {l : List Rc} {w : World} (hl : Ls w 6 A l.length c (l.map Rc.cells)) (hfr : ∀ x ∈ l, Rc.ok w x) {a : Int} (hno : usableB a l = false) :
    Calls Tryz.prog 3 #[.int .i64 a, .slice A l.length c] w fun e w' => e = .returned (.bool true) ∧ Below w.heap.size w w' := by
 refine V.enter Tryz.func3 rfl rfl (by simp) fun f0 hf => ?_
 have s0 : f0 0 = .int .i64 a := hf 0 (by simp)
 have s1 : f0 1 = .slice A l.length c := hf 1 (by simp)
 clear hf
 have hb : Below w.heap.size w w := Below.refl _ _
 have w_hl := hl
 have w_hfr := hfr
 refine V.seq ?_
 refine V.reg 1 [V.E (.bool false)] [] (V.i hl (V.i hfr hb)) ?_ ?_
 ·refine V.ac ?_ V.an
  ·exact V.z1 rfl fun h => V.xs rfl
 intro f1 W2 hE3
 clear hl hfr hb
 obtain ⟨⟨hl, hfr, hb⟩, hsz⟩ := hE3.g
 obtain ⟨s0, s1⟩ := V.e2 hE3 s0 s1
 have s4 := V.es hE3 0 4 rfl
 clear hE3 hsz
 refine V.t_done rfl (V.nx (V.seq (V.seq ?_)))
 refine V.reg 2 [V.E (.bool true), V.E (.bool false)] [] (V.i hl (V.i hfr hb)) ?_ ?_
 ·refine V.ac ?_ (V.ac ?_ V.an)
  ·refine V.s2 rfl fun f W h => ?_
   refine V.call en11 (V.args0 ) (Calls.mono (awake_s) ?_)
   rintro e W' ⟨rfl, hb⟩
   exact ⟨_, rfl, rfl, hb⟩
  ·exact V.z1 rfl fun h => V.x_un (V.ed h 0 19 rfl)
 intro f4 W5 hE6
 clear hl hfr hb
 obtain ⟨⟨hl, hfr, hb⟩, hsz⟩ := hE6.g
 obtain ⟨s0, s1, s4⟩ := V.e3 hE6 s0 s1 s4
 have s20 := V.es hE6 1 20 rfl
 clear hE6 hsz
 refine V.t_done rfl (V.nx ?_)
 refine V.cond_f (V.ev_tmp rfl s20) ?_
 refine V.skip ?_
 refine V.nx (V.seq (V.seq ?_))
 refine V.reg 4 [V.E (.int .i64 a), V.E (.slice A l.length c), V.E (.bool false), V.E (.bool true)] [] (V.i hl (V.i hfr hb)) ?_ ?_
 ·refine V.ac ?_ (V.ac ?_ (V.ac ?_ (V.ac ?_ V.an)))
  ·exact V.z1 rfl fun h => V.xm (V.eo h 0 s0)
  ·exact V.z1 rfl fun h => V.xm (V.eo h 1 s1)
  ·refine V.s2 rfl fun f W h => ?_
   refine V.call en12 (V.args2 (V.ed h 0 21 rfl) (V.ed h 1 22 rfl)) (Calls.mono (usable_s h.g.1.1 h.g.1.2.1) ?_)
   rintro e W' ⟨e7, hb⟩
   rw [hno] at e7
   subst e7
   exact ⟨_, rfl, rfl, hb⟩
  ·exact V.z1 rfl fun h => V.x_un (V.ed h 2 23 rfl)
 intro f8 W9 hE10
 clear hl hfr hb
 obtain ⟨⟨hl, hfr, hb⟩, hsz⟩ := hE10.g
 obtain ⟨s0, s1, s4⟩ := V.e3 hE10 s0 s1 s4
 have s24 := V.es hE10 3 24 rfl
 clear hE10 hsz
 refine V.t_done rfl (V.nx ?_)
 refine V.cond_t (V.ev_tmp rfl s24) ?_
 refine V.seq ?_
 refine V.reg 1 [V.E (.bool true)] [] (V.i hl (V.i hfr hb)) ?_ ?_
 ·refine V.ac ?_ V.an
  ·exact V.z1 rfl fun h => V.xs rfl
 intro f11 W12 hE13
 clear hl hfr hb
 obtain ⟨⟨hl, hfr, hb⟩, hsz⟩ := hE13.g
 obtain ⟨s0, s1⟩ := V.e2 hE13 s0 s1
 have s4 := V.es hE13 0 4 rfl
 clear hE13 hsz
 refine V.t_done rfl (V.nx (V.ret (V.tr ?_)))
 refine V.leave_any (.inl rfl) (V.res_tmp rfl rfl s4) ?_
 exact ⟨rfl, hb⟩
set_option maxRecDepth 20000 in
set_option maxHeartbeats 2000000 in
theorem fair_yes {A : Option Addr} {c : Nat} {l : List Cl} {w : World} (hl : Ls w 6 A l.length c (l.map Cl.cells)) (hfr : ∀ x ∈ l, Fr.ok w x.w) (hV : ValidC l) (h10 : l.length ≤ 10) {a : Int} (h0 : 0 ≤ a) (h1 : a ≤ 1099511627776) :
    Calls Tryz.prog 3 #[.int .i64 a, .slice A l.length c] w fun e w' => e = .returned (.bool true) ∧ Below w.heap.size w w' := by
 have h20 : l.length < 20 := by omega
 have hgood := hV.g
 refine V.enter Tryz.func3 rfl rfl (by simp) fun f0 hf => ?_
 have s0 : f0 0 = .int .i64 a := hf 0 (by simp)
 have s1 : f0 1 = .slice A l.length c := hf 1 (by simp)
 clear hf
 have hb : Below w.heap.size w w := Below.refl _ _
 have w_hl := hl
 have w_hfr := hfr
 refine V.seq ?_
 refine V.reg 1 [V.E (.bool false)] [] (V.i hl (V.i hfr hb)) ?_ ?_
 ·refine V.ac ?_ V.an
  ·exact V.z1 rfl fun h => V.xs rfl
 intro f14 W15 hE16
 clear hl hfr hb
 obtain ⟨⟨hl, hfr, hb⟩, hsz⟩ := hE16.g
 obtain ⟨s0, s1⟩ := V.e2 hE16 s0 s1
 have s4 := V.es hE16 0 4 rfl
 clear hE16 hsz
 refine V.t_done rfl (V.nx (V.seq (V.seq ?_)))
 refine V.reg 2 [V.E (.bool true), V.E (.bool false)] [] (V.i hl (V.i hfr hb)) ?_ ?_
 ·refine V.ac ?_ (V.ac ?_ V.an)
  ·refine V.s2 rfl fun f W h => ?_
   refine V.call en11 (V.args0 ) (Calls.mono (awake_s) ?_)
   rintro e W' ⟨rfl, hb⟩
   exact ⟨_, rfl, rfl, hb⟩
  ·exact V.z1 rfl fun h => V.x_un (V.ed h 0 19 rfl)
 intro f17 W18 hE19
 clear hl hfr hb
 obtain ⟨⟨hl, hfr, hb⟩, hsz⟩ := hE19.g
 obtain ⟨s0, s1, s4⟩ := V.e3 hE19 s0 s1 s4
 have s20 := V.es hE19 1 20 rfl
 clear hE19 hsz
 refine V.t_done rfl (V.nx ?_)
 refine V.cond_f (V.ev_tmp rfl s20) ?_
 refine V.skip ?_
 refine V.nx (V.seq (V.seq ?_))
 refine V.reg 4 [V.E (.int .i64 a), V.E (.slice A l.length c), V.E (.bool true), V.E (.bool false)] [] (V.i hl (V.i hfr hb)) ?_ ?_
 ·refine V.ac ?_ (V.ac ?_ (V.ac ?_ (V.ac ?_ V.an)))
  ·exact V.z1 rfl fun h => V.xm (V.eo h 0 s0)
  ·exact V.z1 rfl fun h => V.xm (V.eo h 1 s1)
  ·refine V.s2 rfl fun f W h => ?_
   refine V.call en12 (V.args2 (V.ed h 0 21 rfl) (V.ed h 1 22 rfl)) (Calls.mono (usable_t h.g.1.1 h.g.1.2.1 hV h10 h0 h1) ?_)
   rintro e W' ⟨rfl, hb⟩
   exact ⟨_, rfl, rfl, hb⟩
  ·exact V.z1 rfl fun h => V.x_un (V.ed h 2 23 rfl)
 intro f20 W21 hE22
 clear hl hfr hb
 obtain ⟨⟨hl, hfr, hb⟩, hsz⟩ := hE22.g
 obtain ⟨s0, s1, s4⟩ := V.e3 hE22 s0 s1 s4
 have s24 := V.es hE22 3 24 rfl
 clear hE22 hsz
 refine V.t_done rfl (V.nx ?_)
 refine V.cond_f (V.ev_tmp rfl s24) ?_
 refine V.skip ?_
 refine V.nx (V.seq ?_)
 refine V.reg 8 [V.E (.int .i64 a), V.E (.slice A l.length c), (fun v W => ∃ g23 : Nat, ∃ t24 : Rat, ∃ ys25 : List Nat, ∃ m26 : Nat, ∃ rs27 : List Int, v = .tuple #[.slice (some ⟨g23, 0, none⟩) l.length l.length, .int .i64 0] ∧ Own W g23 3 1 (rs27.map IntC) ([]) ∧ (PartsOf a l t24 ys25 m26 rs27) ∧ (w.heap.size ≤ g23) ∧ (W21.heap.size ≤ g23)), (fun v W => ∃ g31 : Nat, ∃ t32 : Rat, ∃ ys33 : List Nat, ∃ m34 : Nat, ∃ rs35 : List Int, v = .tuple #[.slice (some ⟨g31, 0, none⟩) l.length l.length, .int .i64 0] ∧ Own W g31 3 1 (rs35.map IntC) ([]) ∧ (PartsOf a l t32 ys33 m34 rs35) ∧ (w.heap.size ≤ g31) ∧ (W21.heap.size ≤ g31)), (fun v W => ∃ g36 : Nat, ∃ t37 : Rat, ∃ ys38 : List Nat, ∃ m39 : Nat, ∃ rs40 : List Int, v = .slice (some ⟨g36, 0, none⟩) l.length l.length ∧ Own W g36 3 1 (rs40.map IntC) ([]) ∧ (PartsOf a l t37 ys38 m39 rs40) ∧ (w.heap.size ≤ g36) ∧ (W21.heap.size ≤ g36)), V.E (.int .i64 0), (fun v W => ∃ g41 : Nat, ∃ t42 : Rat, ∃ ys43 : List Nat, ∃ m44 : Nat, ∃ rs45 : List Int, v = .slice (some ⟨g41, 0, none⟩) l.length l.length ∧ Own W g41 3 1 (rs45.map IntC) ([]) ∧ (PartsOf a l t42 ys43 m44 rs45) ∧ (w.heap.size ≤ g41) ∧ (W21.heap.size ≤ g41)), V.E (.int .i64 0)] [] (V.i hl (V.i hfr hb)) ?_ ?_
 ·refine V.ac ?_ (V.ac ?_ (V.ac ?_ (V.ac ?_ (V.ac ?_ (V.ac ?_ (V.ac ?_ (V.ac ?_ V.an)))))))
  ·exact V.z1 rfl fun h => V.xm (V.eo h 0 s0)
  ·exact V.z1 rfl fun h => V.xm (V.eo h 1 s1)
  ·refine V.s2 rfl fun f W h => ?_
   refine V.call en13 (V.args2 (V.ed h 0 26 rfl) (V.ed h 1 27 rfl)) (Calls.mono (Parts_n rfl h.g.1.1 h.g.1.2.1 hV h10 h0 h1) ?_)
   rintro e W' ⟨g23, t24, ys25, m26, rs27, rfl, p28, p29, p30, hb⟩
   exact ⟨_, rfl, ⟨g23, t24, ys25, m26, rs27, rfl, p29, p28, Nat.le_trans h.g.1.2.2.size p30, Nat.le_trans h.g.2 p30⟩, hb⟩
  ·refine V.s2 rfl fun f W h => ?_
   obtain ⟨g23, t24, ys25, m26, rs27, a28, k2_0, p2_0, p2_1, p2_2⟩ := V.dp h 2 28 (by kernel_rfl) rfl
   exact V.v2 (.tuple #[.slice (some ⟨g23, 0, none⟩) l.length l.length, .int .i64 0]) (V.xm (V.ev_tmp rfl a28)) ⟨g23, t24, ys25, m26, rs27, rfl, k2_0, p2_0, p2_1, p2_2⟩
  ·refine V.s2 rfl fun f W h => ?_
   obtain ⟨g31, t32, ys33, m34, rs35, a25, k3_0, p3_0, p3_1, p3_2⟩ := V.dp h 3 25 (by kernel_rfl) rfl
   exact V.v2 (.slice (some ⟨g31, 0, none⟩) l.length l.length) (V.xe (V.ev_tmp rfl a25)) ⟨g31, t32, ys33, m34, rs35, rfl, k3_0, p3_0, p3_1, p3_2⟩
  ·refine V.s1 rfl fun f W h => ?_
   obtain ⟨g31, t32, ys33, m34, rs35, a25, k3_0, p3_0, p3_1, p3_2⟩ := V.dp h 3 25 (by kernel_rfl) rfl
   exact V.xe (V.ev_tmp rfl a25)
  ·refine V.s2 rfl fun f W h => ?_
   obtain ⟨g36, t37, ys38, m39, rs40, a29, k4_0, p4_0, p4_1, p4_2⟩ := V.dp h 4 29 (by kernel_rfl) rfl
   exact V.v2 (.slice (some ⟨g36, 0, none⟩) l.length l.length) (V.xs (V.ev_tmp rfl a29)) ⟨g36, t37, ys38, m39, rs40, rfl, k4_0, p4_0, p4_1, p4_2⟩
  ·exact V.z1 rfl fun h => V.xs (V.ed h 5 30 rfl)
 intro f46 W47 hE48
 clear hl hfr hb
 obtain ⟨⟨hl, hfr, hb⟩, hsz⟩ := hE48.g
 obtain ⟨s0, s1, s4⟩ := V.e3 hE48 s0 s1 s4
 obtain ⟨g41, t42, ys43, m44, rs45, s5, r49, n50, n51, n52⟩ := V.eq hE48 6 5 rfl
 have s6 := V.es hE48 7 6 rfl
 clear hE48 hsz
 refine V.t_done rfl (V.nx (V.seq ?_))
 refine V.reg 8 [V.E (.int .i64 a), V.E (.slice A l.length c), (fun v W => ∃ g54 : Nat, ∃ xs55 : List Fr, ∃ t56 : Rat, v = .tuple #[.slice (some ⟨g54, 0, none⟩) l.length l.length, .int .i64 0] ∧ Own W g54 39 4 (xs55.map Fr.cells) ([]) ∧ (∀ x ∈ xs55, Fr.ok W x) ∧ (LevOf a l t56) ∧ (ExP l t56 xs55) ∧ (w.heap.size ≤ g54) ∧ (W47.heap.size ≤ g54)), (fun v W => ∃ g62 : Nat, ∃ xs63 : List Fr, ∃ t64 : Rat, v = .tuple #[.slice (some ⟨g62, 0, none⟩) l.length l.length, .int .i64 0] ∧ Own W g62 39 4 (xs63.map Fr.cells) ([]) ∧ (∀ x ∈ xs63, Fr.ok W x) ∧ (LevOf a l t64) ∧ (ExP l t64 xs63) ∧ (w.heap.size ≤ g62) ∧ (W47.heap.size ≤ g62)), (fun v W => ∃ g65 : Nat, ∃ xs66 : List Fr, ∃ t67 : Rat, v = .slice (some ⟨g65, 0, none⟩) l.length l.length ∧ Own W g65 39 4 (xs66.map Fr.cells) ([]) ∧ (∀ x ∈ xs66, Fr.ok W x) ∧ (LevOf a l t67) ∧ (ExP l t67 xs66) ∧ (w.heap.size ≤ g65) ∧ (W47.heap.size ≤ g65)), V.E (.int .i64 0), (fun v W => ∃ g68 : Nat, ∃ xs69 : List Fr, ∃ t70 : Rat, v = .slice (some ⟨g68, 0, none⟩) l.length l.length ∧ Own W g68 39 4 (xs69.map Fr.cells) ([]) ∧ (∀ x ∈ xs69, Fr.ok W x) ∧ (LevOf a l t70) ∧ (ExP l t70 xs69) ∧ (w.heap.size ≤ g68) ∧ (W47.heap.size ≤ g68)), V.E (.int .i64 0)] [] (V.i hl (V.i hfr (V.i hb r49))) ?_ ?_
 ·refine V.ac ?_ (V.ac ?_ (V.ac ?_ (V.ac ?_ (V.ac ?_ (V.ac ?_ (V.ac ?_ (V.ac ?_ V.an)))))))
  ·exact V.z1 rfl fun h => V.xm (V.eo h 0 s0)
  ·exact V.z1 rfl fun h => V.xm (V.eo h 1 s1)
  ·refine V.s2 rfl fun f W h => ?_
   refine V.call en14 (V.args2 (V.ed h 0 32 rfl) (V.ed h 1 33 rfl)) (Calls.mono (Exact_s h.g.1.1 h.g.1.2.1 hV h20 h0 h1) ?_)
   rintro e W' ⟨g54, xs55, t56, rfl, p57, p58, p59, p60, p61, hb⟩
   exact ⟨_, rfl, ⟨g54, xs55, t56, rfl, p59, p60, p57, p58, Nat.le_trans h.g.1.2.2.1.size p61, Nat.le_trans h.g.2 p61⟩, hb⟩
  ·refine V.s2 rfl fun f W h => ?_
   obtain ⟨g54, xs55, t56, a34, k2_0, k2_1, p2_0, p2_1, p2_2, p2_3⟩ := V.dp h 2 34 (by kernel_rfl) rfl
   exact V.v2 (.tuple #[.slice (some ⟨g54, 0, none⟩) l.length l.length, .int .i64 0]) (V.xm (V.ev_tmp rfl a34)) ⟨g54, xs55, t56, rfl, k2_0, k2_1, p2_0, p2_1, p2_2, p2_3⟩
  ·refine V.s2 rfl fun f W h => ?_
   obtain ⟨g62, xs63, t64, a31, k3_0, k3_1, p3_0, p3_1, p3_2, p3_3⟩ := V.dp h 3 31 (by kernel_rfl) rfl
   exact V.v2 (.slice (some ⟨g62, 0, none⟩) l.length l.length) (V.xe (V.ev_tmp rfl a31)) ⟨g62, xs63, t64, rfl, k3_0, k3_1, p3_0, p3_1, p3_2, p3_3⟩
  ·refine V.s1 rfl fun f W h => ?_
   obtain ⟨g62, xs63, t64, a31, k3_0, k3_1, p3_0, p3_1, p3_2, p3_3⟩ := V.dp h 3 31 (by kernel_rfl) rfl
   exact V.xe (V.ev_tmp rfl a31)
  ·refine V.s2 rfl fun f W h => ?_
   obtain ⟨g65, xs66, t67, a35, k4_0, k4_1, p4_0, p4_1, p4_2, p4_3⟩ := V.dp h 4 35 (by kernel_rfl) rfl
   exact V.v2 (.slice (some ⟨g65, 0, none⟩) l.length l.length) (V.xs (V.ev_tmp rfl a35)) ⟨g65, xs66, t67, rfl, k4_0, k4_1, p4_0, p4_1, p4_2, p4_3⟩
  ·exact V.z1 rfl fun h => V.xs (V.ed h 5 36 rfl)
 have o_g41 := r49.blk.lt
 intro f71 W72 hE73
 clear hl hfr hb r49
 obtain ⟨⟨hl, hfr, hb, r49⟩, hsz⟩ := hE73.g
 obtain ⟨s0, s1, s4, s5, s6⟩ := V.e5 hE73 s0 s1 s4 s5 s6
 obtain ⟨g68, xs69, t70, s7, r74, r75, n76, n77, n78, n79⟩ := V.eq hE73 6 7 rfl
 have s8 := V.es hE73 7 8 rfl
 clear hE73 hsz
 clear o_g41
 refine V.t_done rfl (V.nx (V.seq (V.seq ?_)))
 refine V.reg 20 [V.E (.int .i64 0), V.E (.bool false), V.E (.bool false), (V.Gd (!false) (V.E (.int .i64 0))), (V.Gd (!false) (V.E (.bool false))), V.E (.bool false), V.E (.bool false), (V.Gd (!false) (V.E (.slice (some ⟨g41, 0, none⟩) l.length l.length))), (V.Gd (!false) (V.E (.int .i64 (l.length : Int)))), (V.Gd (!false) (V.E (.slice A l.length c))), (V.Gd (!false) (V.E (.int .i64 (l.length : Int)))), (V.Gd (!false) (V.E (.bool false))), V.E (.bool false), V.E (.bool false), (V.Gd (!false) (V.E (.slice (some ⟨g68, 0, none⟩) l.length l.length))), (V.Gd (!false) (V.E (.int .i64 (l.length : Int)))), (V.Gd (!false) (V.E (.slice A l.length c))), (V.Gd (!false) (V.E (.int .i64 (l.length : Int)))), (V.Gd (!false) (V.E (.bool false))), V.E (.bool false)] [] (V.i hl (V.i hfr (V.i hb (V.i r49 (V.i r74 r75))))) ?_ ?_
 ·refine V.ac ?_ (V.ac ?_ (V.ac ?_ (V.ac ?_ (V.ac ?_ (V.ac ?_ (V.ac ?_ (V.ac ?_ (V.ac ?_ (V.ac ?_ (V.ac ?_ (V.ac ?_ (V.ac ?_ (V.ac ?_ (V.ac ?_ (V.ac ?_ (V.ac ?_ (V.ac ?_ (V.ac ?_ (V.ac ?_ V.an)))))))))))))))))))
  ·exact V.z1 rfl fun h => V.xm (V.eo h 6 s6)
  ·exact V.z1 rfl fun h => V.xb (V.ed h 0 37 rfl) rfl
  ·exact V.z1 rfl fun h => V.xm (V.ed h 1 38 rfl)
  ·exact V.gf 2 39 rfl rfl fun hp f W h => V.v1 (V.xm (V.eo h 8 s8))
  ·exact V.gf 2 39 rfl rfl fun hp f W h => V.v1 (V.xb (V.eg h 3 40 rfl hp) rfl)
  ·refine V.s1 rfl fun f W h => ?_
   have d41 := V.dp h 4 41 (by kernel_rfl) rfl
   exact V.x_pick_f (V.ed h 2 39 rfl) (V.ev_tmp rfl (V.gd_on d41 rfl))
  ·exact V.z1 rfl fun h => V.xm (V.ed h 5 42 rfl)
  ·exact V.gf 6 43 rfl rfl fun hp f W h => V.v1 (V.xm (V.eo h 5 s5))
  ·exact V.gf 6 43 rfl rfl fun hp f W h => V.v1 (V.x_len (V.eg h 7 44 rfl hp))
  ·exact V.gf 6 43 rfl rfl fun hp f W h => V.v1 (V.xm (V.eo h 1 s1))
  ·exact V.gf 6 43 rfl rfl fun hp f W h => V.v1 (V.x_len (V.eg h 9 46 rfl hp))
  ·exact V.gf 6 43 rfl rfl fun hp f W h => V.v1 (V.xb (V.eg h 8 45 rfl hp) (V.eg h 10 47 rfl hp) ((by kernel_rfl : _ = Result.ok (.bool ((l.length : Int) != (l.length : Int))) _).trans (by rw [bne_self_eq_false])))
  ·refine V.s1 rfl fun f W h => ?_
   have d48 := V.dp h 11 48 (by kernel_rfl) rfl
   exact V.x_pick_f (V.ed h 6 43 rfl) (V.ev_tmp rfl (V.gd_on d48 rfl))
  ·exact V.z1 rfl fun h => V.xm (V.ed h 12 49 rfl)
  ·exact V.gf 13 50 rfl rfl fun hp f W h => V.v1 (V.xm (V.eo h 7 s7))
  ·exact V.gf 13 50 rfl rfl fun hp f W h => V.v1 (V.x_len (V.eg h 14 51 rfl hp))
  ·exact V.gf 13 50 rfl rfl fun hp f W h => V.v1 (V.xm (V.eo h 1 s1))
  ·exact V.gf 13 50 rfl rfl fun hp f W h => V.v1 (V.x_len (V.eg h 16 53 rfl hp))
  ·exact V.gf 13 50 rfl rfl fun hp f W h => V.v1 (V.xb (V.eg h 15 52 rfl hp) (V.eg h 17 54 rfl hp) ((by kernel_rfl : _ = Result.ok (.bool ((l.length : Int) != (l.length : Int))) _).trans (by rw [bne_self_eq_false])))
  ·refine V.s1 rfl fun f W h => ?_
   have d55 := V.dp h 18 55 (by kernel_rfl) rfl
   exact V.x_pick_f (V.ed h 13 50 rfl) (V.ev_tmp rfl (V.gd_on d55 rfl))
 intro f82 W83 hE84
 clear hl hfr hb r49 r74 r75
 obtain ⟨⟨hl, hfr, hb, r49, r74, r75⟩, hsz⟩ := hE84.g
 obtain ⟨s0, s1, s4, s5, s7⟩ := V.e5 hE84 s0 s1 s4 s5 s7
 have s56 := V.es hE84 19 56 rfl
 clear hE84 hsz
 refine V.t_done rfl (V.nx ?_)
 refine V.cond_f (V.ev_tmp rfl s56) ?_
 refine V.skip ?_
 refine V.nx (V.seq ?_)
 refine V.reg 4 [V.E (.slice A l.length c), V.E (.int .i64 (l.length : Int)), (fun v W => ∃ g85 : Nat, v = .slice (some ⟨g85, 0, none⟩) l.length l.length ∧ Own W g85 39 4 (List.replicate l.length [.bool false, .slice none 0 0, .bool false, .slice none 0 0]) ([]) ∧ (w.heap.size ≤ g85) ∧ (W83.heap.size ≤ g85)), (fun v W => ∃ g86 : Nat, v = .slice (some ⟨g86, 0, none⟩) l.length l.length ∧ Own W g86 39 4 (List.replicate l.length [.bool false, .slice none 0 0, .bool false, .slice none 0 0]) ([]) ∧ (w.heap.size ≤ g86) ∧ (W83.heap.size ≤ g86))] [] (V.i hl (V.i hfr (V.i hb (V.i r49 (V.i r74 r75))))) ?_ ?_
 ·refine V.ac ?_ (V.ac ?_ (V.ac ?_ (V.ac ?_ V.an)))
  ·exact V.z1 rfl fun h => V.xm (V.eo h 1 s1)
  ·exact V.z1 rfl fun h => V.x_len (V.ed h 0 57 rfl)
  ·refine V.s2 rfl fun f W h => ?_
   exact V.valv (.slice (some ⟨W.heap.size, 0, none⟩) l.length l.length) (V.x_make (k := 4) (z := .agg #[.bool false, .slice none 0 0, .bool false, .slice none 0 0]) (V.ed h 1 58 rfl) rfl (by kernel_rfl) (by omega)) ⟨⟨W.heap.size, rfl, Own.made rfl rfl W, h.g.1.2.2.1.size, h.g.2⟩, (Below.refl _ _).alloc (Nat.le_refl _) _⟩
  ·refine V.s2 rfl fun f W h => ?_
   obtain ⟨g85, a59, k2_0, p2_0, p2_1⟩ := V.dp h 2 59 (by kernel_rfl) rfl
   exact V.v2 (.slice (some ⟨g85, 0, none⟩) l.length l.length) (V.xs (V.ev_tmp rfl a59)) ⟨g85, rfl, k2_0, p2_0, p2_1⟩
 have o_g41 := r49.blk.lt
 have o_g68 := r74.blk.lt
 intro f87 W88 hE89
 clear hl hfr hb r49 r74 r75
 obtain ⟨⟨hl, hfr, hb, r49, r74, r75⟩, hsz⟩ := hE89.g
 obtain ⟨s0, s1, s4, s5, s7⟩ := V.e5 hE89 s0 s1 s4 s5 s7
 obtain ⟨g86, s9, r90, n91, n92⟩ := V.eq hE89 3 9 rfl
 have m_g86 := n91
 have q93 : 0 < l.length → (adr A).block ≠ g86 := fun h => Nat.ne_of_lt (Nat.lt_of_lt_of_le (w_hl.blt h) n91)
 have q94 : g41 ≠ g86 := Nat.ne_of_lt (Nat.lt_of_lt_of_le o_g41 n92)
 have q95 : g68 ≠ g86 := Nat.ne_of_lt (Nat.lt_of_lt_of_le o_g68 n92)
 clear hE89 hsz
 clear o_g41 o_g68
 refine V.t_done rfl (V.nx (V.seq ?_))
 refine V.reg 4 [V.E (.slice A l.length c), V.E (.int .i64 (l.length : Int)), (fun v W => ∃ g96 : Nat, v = .slice (some ⟨g96, 0, none⟩) l.length l.length ∧ Own W g96 4 1 (List.replicate l.length [.bool false]) ([]) ∧ (w.heap.size ≤ g96) ∧ (W88.heap.size ≤ g96)), (fun v W => ∃ g97 : Nat, v = .slice (some ⟨g97, 0, none⟩) l.length l.length ∧ Own W g97 4 1 (List.replicate l.length [.bool false]) ([]) ∧ (w.heap.size ≤ g97) ∧ (W88.heap.size ≤ g97))] [] (V.i hl (V.i hfr (V.i hb (V.i r49 (V.i r74 (V.i r75 r90)))))) ?_ ?_
 ·refine V.ac ?_ (V.ac ?_ (V.ac ?_ (V.ac ?_ V.an)))
  ·exact V.z1 rfl fun h => V.xm (V.eo h 1 s1)
  ·exact V.z1 rfl fun h => V.x_len (V.ed h 0 60 rfl)
  ·refine V.s2 rfl fun f W h => ?_
   exact V.valv (.slice (some ⟨W.heap.size, 0, none⟩) l.length l.length) (V.x_make (k := 1) (z := .bool false) (V.ed h 1 61 rfl) rfl (by kernel_rfl) (by omega)) ⟨⟨W.heap.size, rfl, Own.made rfl rfl W, h.g.1.2.2.1.size, h.g.2⟩, (Below.refl _ _).alloc (Nat.le_refl _) _⟩
  ·refine V.s2 rfl fun f W h => ?_
   obtain ⟨g96, a62, k2_0, p2_0, p2_1⟩ := V.dp h 2 62 (by kernel_rfl) rfl
   exact V.v2 (.slice (some ⟨g96, 0, none⟩) l.length l.length) (V.xs (V.ev_tmp rfl a62)) ⟨g96, rfl, k2_0, p2_0, p2_1⟩
 have o_g41 := r49.blk.lt
 have o_g68 := r74.blk.lt
 have o_g86 := r90.blk.lt
 intro f98 W99 hE100
 clear hl hfr hb r49 r74 r75 r90
 obtain ⟨⟨hl, hfr, hb, r49, r74, r75, r90⟩, hsz⟩ := hE100.g
 obtain ⟨s0, s1, s4, s5, s7, s9⟩ := V.e6 hE100 s0 s1 s4 s5 s7 s9
 obtain ⟨g97, s10, r101, n102, n103⟩ := V.eq hE100 3 10 rfl
 have m_g97 := n102
 have q104 : 0 < l.length → (adr A).block ≠ g97 := fun h => Nat.ne_of_lt (Nat.lt_of_lt_of_le (w_hl.blt h) n102)
 have q105 : g41 ≠ g97 := Nat.ne_of_lt (Nat.lt_of_lt_of_le o_g41 n103)
 have q106 : g68 ≠ g97 := Nat.ne_of_lt (Nat.lt_of_lt_of_le o_g68 n103)
 have q107 : g86 ≠ g97 := Nat.ne_of_lt (Nat.lt_of_lt_of_le o_g86 n103)
 clear hE100 hsz
 clear o_g41 o_g68 o_g86
 refine V.t_done rfl (V.nx (V.seq (V.seq ?_)))
 refine V.reg 1 [V.E (.int .i64 0)] [] (V.i hl (V.i hfr (V.i hb (V.i r49 (V.i r74 (V.i r75 (V.i r90 r101))))))) ?_ ?_
 ·refine V.ac ?_ V.an
  ·exact V.z1 rfl fun h => V.xs rfl
 intro f108 W109 hE110
 clear hl hfr hb r49 r74 r75 r90 r101
 obtain ⟨⟨hl, hfr, hb, r49, r74, r75, r90, r101⟩, hsz⟩ := hE110.g
 obtain ⟨s0, s1, s4, s5, s7, s9, s10⟩ := V.e7 hE110 s0 s1 s4 s5 s7 s9 s10
 have s11 := V.es hE110 0 11 rfl
 clear hE110 hsz
 refine V.t_done rfl (V.nx (V.block ?_))
 have htt : t70 = t42 := (n76.is hgood h0).uniq n50.lev hgood
 have r111 : Own W109 g86 39 4 ((([] : List Fr).map Fr.cells) ++ List.replicate (l.length - 0) zF) [] := r90
 have r112 : Own W109 g97 4 1 ((List.replicate l.length false).map BoolC) [] := by rw [List.map_replicate]; exact r101
 have r113 : ∀ x ∈ ([] : List Fr), Fr.ok W109 x := by simp
 refine V.loop (fun k f W => ∃ i : Nat, ∃ acc : List Fr, ∃ bs : List Bool, (k = l.length - i ∧ (i ≤ l.length) ∧ (acc.length = i) ∧ (bs.length = l.length) ∧ (∀ j y, acc[j]? = some y → y.q = rest t42 l j) ∧ (∀ z ∈ acc, Q.Sz 107 z.q) ∧ (∀ j, j < i → bs[j]? = some ((fun j => decide (j ∈ ys43.take m44)) j))) ∧ (f 1 = .slice A l.length c ∧ f 5 = .slice (some ⟨g41, 0, none⟩) l.length l.length ∧ f 7 = .slice (some ⟨g68, 0, none⟩) l.length l.length ∧ f 9 = .slice (some ⟨g86, 0, none⟩) l.length l.length ∧ f 10 = .slice (some ⟨g97, 0, none⟩) l.length l.length ∧ f 11 = .int .i64 (i : Int)) ∧ (Below w.heap.size w W ∧ Ls W 6 A l.length c (l.map Cl.cells) ∧ (∀ x ∈ l, Fr.ok W x.w) ∧ Own W g41 3 1 (rs45.map IntC) ([]) ∧ Own W g68 39 4 (xs69.map Fr.cells) ([]) ∧ (∀ x ∈ xs69, Fr.ok W x) ∧ Own W g86 39 4 ((acc.map Fr.cells) ++ List.replicate (l.length - i) zF) ([]) ∧ (∀ x ∈ acc, Fr.ok W x) ∧ Own W g97 4 1 (bs.map BoolC) ([]))) (l.length - 0) ⟨0, ([] : List Fr), (List.replicate l.length false), ⟨rfl, by omega, rfl, by simp, by simp, by simp, by omega⟩, ⟨s1, s5, s7, s9, s10, (s11.trans (by simp))⟩, ⟨hb, hl, hfr, r49, r74, r75, r111, r113, r112⟩⟩ ?_
 clear hl hfr hb r49 r74 r75 r111 r112 r113 s0 s1 s4 s5 s7 s9 s10 s11
 rintro k116 f114 W115 ⟨i, acc, bs, ⟨hk126, hil, hacc, hbl, hrests, hszs, hgots⟩, ⟨s1, s5, s7, s9, s10, s11⟩, ⟨r117, r118, r119, r120, r121, r122, r123, r124, r125⟩⟩
 refine V.seq (V.seq ?_)
 refine V.reg 4 [V.E (.int .i64 (i : Int)), V.E (.slice A l.length c), V.E (.int .i64 (l.length : Int)), V.E (.bool (decide ((i : Int) < (l.length : Int))))] [] (V.i r117 (V.i r118 (V.i r119 (V.i r120 (V.i r121 (V.i r122 (V.i r123 (V.i r124 r125)))))))) ?_ ?_
 ·refine V.ac ?_ (V.ac ?_ (V.ac ?_ (V.ac ?_ V.an)))
  ·exact V.z1 rfl fun h => V.xm (V.eo h 11 s11)
  ·exact V.z1 rfl fun h => V.xm (V.eo h 1 s1)
  ·exact V.z1 rfl fun h => V.x_len (V.ed h 1 64 rfl)
  ·exact V.z1 rfl fun h => V.xb (V.ed h 0 63 rfl) (V.ed h 2 65 rfl)
 intro f127 W128 hE129
 clear r117 r118 r119 r120 r121 r122 r123 r124 r125
 obtain ⟨⟨r117, r118, r119, r120, r121, r122, r123, r124, r125⟩, hsz⟩ := hE129.g
 obtain ⟨s1, s5, s7, s9, s10, s11⟩ := V.e6 hE129 s1 s5 s7 s9 s10 s11
 have s66 := V.es hE129 3 66 rfl
 clear hE129 hsz
 refine V.t_done rfl (V.nx ?_)
 cases hc130 : (decide ((i : Int) < (l.length : Int)))
 ·have s66_ : f127 66 = .bool false := s66.trans (by rw [hc130])
  refine V.cond_f (V.ev_tmp rfl s66_) ?_
  have hi : i = l.length := by have := of_decide_eq_false hc130; omega
  have r131 : Own W128 g86 39 4 (acc.map Fr.cells) [] := by have h9 := r123; rw [hi, Nat.sub_self, List.replicate_zero, List.append_nil] at h9; exact h9
  rw [hi] at hacc
  rw [hi] at hgots
  refine V.exit (V.tx (V.tx (V.bx (V.nx (V.seq (V.seq ?_))))))
  refine V.reg 1 [V.E (.int .i64 0)] [] (V.i r117 (V.i r118 (V.i r119 (V.i r120 (V.i r121 (V.i r122 (V.i r124 (V.i r125 r131)))))))) ?_ ?_
  ·refine V.ac ?_ V.an
   ·exact V.z1 rfl fun h => V.xs rfl
  intro f132 W133 hE134
  clear r117 r118 r119 r120 r121 r122 r124 r125 r131
  obtain ⟨⟨r117, r118, r119, r120, r121, r122, r124, r125, r131⟩, hsz⟩ := hE134.g
  obtain ⟨s1, s9, s10⟩ := V.e3 hE134 s1 s9 s10
  have s16 := V.es hE134 0 16 rfl
  clear hE134 hsz
  refine V.t_done rfl (V.nx (V.block ?_))
  refine V.loop (fun k f W => ∃ i2 : Nat, (k = l.length - i2 ∧ (i2 ≤ l.length)) ∧ (f 1 = .slice A l.length c ∧ f 9 = .slice (some ⟨g86, 0, none⟩) l.length l.length ∧ f 10 = .slice (some ⟨g97, 0, none⟩) l.length l.length ∧ f 16 = .int .i64 (i2 : Int)) ∧ (Below w.heap.size w W ∧ Ls W 6 A l.length c (l.map Cl.cells) ∧ Own W g86 39 4 (acc.map Fr.cells) ([]) ∧ (∀ x ∈ acc, Fr.ok W x) ∧ Own W g97 4 1 (bs.map BoolC) ([]))) (l.length - 0) ⟨0, ⟨rfl, by omega⟩, ⟨s1, s9, s10, (s16.trans (by simp))⟩, ⟨r117, r118, r131, r124, r125⟩⟩ ?_
  clear r117 r118 r119 r120 r121 r122 r124 r125 r131 s1 s9 s10 s16
  rintro k137 f135 W136 ⟨i2, ⟨hk143, hil2⟩, ⟨s1, s9, s10, s16⟩, ⟨r138, r139, r140, r141, r142⟩⟩
  refine V.seq (V.seq ?_)
  refine V.reg 4 [V.E (.int .i64 (i2 : Int)), V.E (.slice A l.length c), V.E (.int .i64 (l.length : Int)), V.E (.bool (decide ((i2 : Int) < (l.length : Int))))] [] (V.i r138 (V.i r139 (V.i r140 (V.i r141 r142)))) ?_ ?_
  ·refine V.ac ?_ (V.ac ?_ (V.ac ?_ (V.ac ?_ V.an)))
   ·exact V.z1 rfl fun h => V.xm (V.eo h 16 s16)
   ·exact V.z1 rfl fun h => V.xm (V.eo h 1 s1)
   ·exact V.z1 rfl fun h => V.x_len (V.ed h 1 122 rfl)
   ·exact V.z1 rfl fun h => V.xb (V.ed h 0 121 rfl) (V.ed h 2 123 rfl)
  intro f144 W145 hE146
  clear r138 r139 r140 r141 r142
  obtain ⟨⟨r138, r139, r140, r141, r142⟩, hsz⟩ := hE146.g
  obtain ⟨s1, s9, s10, s16⟩ := V.e4 hE146 s1 s9 s10 s16
  have s124 := V.es hE146 3 124 rfl
  clear hE146 hsz
  refine V.t_done rfl (V.nx ?_)
  cases hc147 : (decide ((i2 : Int) < (l.length : Int)))
  ·have s124_ : f144 124 = .bool false := s124.trans (by rw [hc147])
   refine V.cond_f (V.ev_tmp rfl s124_) ?_
   refine V.exit (V.tx (V.tx (V.bx (V.nx (V.seq ?_)))))
   refine V.reg 1 [V.E (.bool true)] [] (V.i r138 (V.i r139 (V.i r140 (V.i r141 r142)))) ?_ ?_
   ·refine V.ac ?_ V.an
    ·exact V.z1 rfl fun h => V.xs rfl
   intro f148 W149 hE150
   clear r138 r139 r140 r141 r142
   obtain ⟨⟨r138, r139, r140, r141, r142⟩, hsz⟩ := hE150.g
   replace s1 := V.e1 hE150 s1
   have s4 := V.es hE150 0 4 rfl
   clear hE150 hsz
   refine V.t_done rfl (V.nx (V.ret ?_))
   refine V.leave_any (.inl rfl) (V.res_tmp rfl rfl s4) ?_
   exact ⟨rfl, r138⟩
  ·have s124_ : f144 124 = .bool true := s124.trans (by rw [hc147])
   refine V.cond_t (V.ev_tmp rfl s124_) ?_
   have hi2 : i2 < l.length := by have := of_decide_eq_true hc147; omega
   obtain ⟨z1, mz1, ez1, ez1_⟩ := V.at_map Fr.cells (l := acc) (i := i2) (by rw [hacc]; exact hi2)
   obtain ⟨b1, hb1⟩ : ∃ b1, b1 = decide (i2 ∈ ys43.take m44) := ⟨_, rfl⟩
   have eb1_ : (bs.map BoolC)[i2]? = some (BoolC b1) := by rw [List.getElem?_map, hgots i2 hi2, hb1]; rfl
   refine V.skip ?_
   refine V.nx (V.seq (V.block (V.seq ?_)))
   refine V.reg 1 [V.E (.int .i64 0)] [] (V.i r138 (V.i r139 (V.i r140 (V.i r141 r142)))) ?_ ?_
   ·refine V.ac ?_ V.an
    ·exact V.z1 rfl fun h => V.xs rfl
   intro f151 W152 hE153
   clear r138 r139 r140 r141 r142
   obtain ⟨⟨r138, r139, r140, r141, r142⟩, hsz⟩ := hE153.g
   obtain ⟨s1, s9, s10, s16⟩ := V.e4 hE153 s1 s9 s10 s16
   have s17 := V.es hE153 0 17 rfl
   clear hE153 hsz
   refine V.t_done rfl (V.nx (V.block ?_))
   refine V.loop (fun k f W => ∃ j2 : Nat, (k = l.length - j2 ∧ (j2 ≤ l.length)) ∧ (f 1 = .slice A l.length c ∧ f 9 = .slice (some ⟨g86, 0, none⟩) l.length l.length ∧ f 10 = .slice (some ⟨g97, 0, none⟩) l.length l.length ∧ f 16 = .int .i64 (i2 : Int) ∧ f 17 = .int .i64 (j2 : Int)) ∧ (Below w.heap.size w W ∧ Ls W 6 A l.length c (l.map Cl.cells) ∧ Own W g86 39 4 (acc.map Fr.cells) ([]) ∧ (∀ x ∈ acc, Fr.ok W x) ∧ Own W g97 4 1 (bs.map BoolC) ([]))) (l.length - 0) ⟨0, ⟨rfl, by omega⟩, ⟨s1, s9, s10, s16, (s17.trans (by simp))⟩, ⟨r138, r139, r140, r141, r142⟩⟩ ?_
   clear r138 r139 r140 r141 r142 s1 s9 s10 s16 s17
   rintro k156 f154 W155 ⟨j2, ⟨hk162, hjl2⟩, ⟨s1, s9, s10, s16, s17⟩, ⟨r157, r158, r159, r160, r161⟩⟩
   refine V.seq (V.seq ?_)
   refine V.reg 4 [V.E (.int .i64 (j2 : Int)), V.E (.slice A l.length c), V.E (.int .i64 (l.length : Int)), V.E (.bool (decide ((j2 : Int) < (l.length : Int))))] [] (V.i r157 (V.i r158 (V.i r159 (V.i r160 r161)))) ?_ ?_
   ·refine V.ac ?_ (V.ac ?_ (V.ac ?_ (V.ac ?_ V.an)))
    ·exact V.z1 rfl fun h => V.xm (V.eo h 17 s17)
    ·exact V.z1 rfl fun h => V.xm (V.eo h 1 s1)
    ·exact V.z1 rfl fun h => V.x_len (V.ed h 1 128 rfl)
    ·exact V.z1 rfl fun h => V.xb (V.ed h 0 127 rfl) (V.ed h 2 129 rfl)
   intro f163 W164 hE165
   clear r157 r158 r159 r160 r161
   obtain ⟨⟨r157, r158, r159, r160, r161⟩, hsz⟩ := hE165.g
   obtain ⟨s1, s9, s10, s16, s17⟩ := V.e5 hE165 s1 s9 s10 s16 s17
   have s130 := V.es hE165 3 130 rfl
   clear hE165 hsz
   refine V.t_done rfl (V.nx ?_)
   cases hc166 : (decide ((j2 : Int) < (l.length : Int)))
   ·have s130_ : f163 130 = .bool false := s130.trans (by rw [hc166])
    refine V.cond_f (V.ev_tmp rfl s130_) ?_
    refine V.exit (V.tx (V.tx (V.bx (V.bn (V.nx ?_)))))
    refine V.reg 3 [V.E (.int .i64 (i2 : Int)), V.E (.int .i64 ((i2 : Int) + 1)), V.E (.int .i64 ((i2 : Int) + 1))] [] (V.i r157 (V.i r158 (V.i r159 (V.i r160 r161)))) ?_ ?_
    ·refine V.ac ?_ (V.ac ?_ (V.ac ?_ V.an))
     ·exact V.z1 rfl fun h => V.xm (V.eo h 16 s16)
     ·refine V.s1 rfl fun f W h => ?_
      have hw167 : IntKind.i64.wrap ((i2 : Int) + 1) = (i2 : Int) + 1 := by exact IntWalk.i64_in _ (by omega)
      exact V.xb (V.ed h 0 125 rfl) rfl ((by kernel_rfl : _ = Result.ok (.int .i64 (IntKind.i64.wrap ((i2 : Int) + 1))) _).trans (by rw [hw167]))
     ·exact V.z1 rfl fun h => V.xs (V.ed h 1 126 rfl)
    intro f168 W169 hE170
    clear r157 r158 r159 r160 r161
    obtain ⟨⟨r157, r158, r159, r160, r161⟩, hsz⟩ := hE170.g
    obtain ⟨s1, s9, s10⟩ := V.e3 hE170 s1 s9 s10
    have s16 := V.es hE170 2 16 rfl
    clear hE170 hsz
    refine V.t_done rfl ?_
    refine V.handed (l.length - (i2 + 1)) (by have := hk143; omega) ⟨(i2 + 1), ⟨rfl, by omega⟩, ⟨s1, s9, s10, (s16.trans (by simp))⟩, ⟨r157, r158, r159, r160, r161⟩⟩
   ·have s130_ : f163 130 = .bool true := s130.trans (by rw [hc166])
    refine V.cond_t (V.ev_tmp rfl s130_) ?_
    have hj2 : j2 < l.length := by have := of_decide_eq_true hc166; omega
    obtain ⟨z2, mz2, ez2, ez2_⟩ := V.at_map Fr.cells (l := acc) (i := j2) (by rw [hacc]; exact hj2)
    obtain ⟨b2, hb2⟩ : ∃ b2, b2 = decide (j2 ∈ ys43.take m44) := ⟨_, rfl⟩
    have eb2_ : (bs.map BoolC)[j2]? = some (BoolC b2) := by rw [List.getElem?_map, hgots j2 hj2, hb2]; rfl
    have fz1 := r160 z1 mz1
    have fz2 := r160 z2 mz2
    have hsz1 := hszs z1 mz1
    have hsz2 := hszs z2 mz2
    have hfair : b1 = true → b2 = false → z2.q < z1.q ∨ (z2.q = z1.q ∧ i2 < j2) := fun h h' => by rw [hrests _ _ ez1, hrests _ _ ez2]; exact n50.ord.fair (of_decide_eq_true (hb1 ▸ h)) (of_decide_eq_false (hb2 ▸ h')) hj2
    refine V.skip ?_
    refine V.nx (V.seq (V.block (V.seq ?_)))
    refine V.reg 10 [V.E (.slice (some ⟨g86, 0, none⟩) l.length l.length), V.E (.int .i64 (i2 : Int)), V.E (.pointer (some ((adr (some ⟨g86, 0, none⟩)).add (i2 * 4 + 0)))), V.E (z1.v), V.E (.slice (some ⟨g86, 0, none⟩) l.length l.length), V.E (.int .i64 (j2 : Int)), V.E (.pointer (some ((adr (some ⟨g86, 0, none⟩)).add (j2 * 4 + 0)))), V.E (z2.v), V.E (.int .i64 (Q.cmp z1.q z2.q)), V.E (.int .i64 (Q.cmp z1.q z2.q))] [] (V.i r157 (V.i r158 (V.i r159 (V.i r160 (V.i r161 (V.i fz1 fz2)))))) ?_ ?_
    ·refine V.ac ?_ (V.ac ?_ (V.ac ?_ (V.ac ?_ (V.ac ?_ (V.ac ?_ (V.ac ?_ (V.ac ?_ (V.ac ?_ (V.ac ?_ V.an)))))))))
     ·exact V.z1 rfl fun h => V.xm (V.eo h 9 s9)
     ·exact V.z1 rfl fun h => V.xm (V.eo h 16 s16)
     ·exact V.z1 rfl fun h => V.xi (i := i2) (Own.lsn (n := l.length) (c := l.length) h.g.1.2.2.1 ⟨by rw [List.length_map]; exact hacc, Nat.le_refl _, by omega⟩) ez1_ (V.ed h 0 133 rfl) (V.ed h 1 134 rfl)
     ·exact V.z1 rfl fun h => V.xl (V.ed h 2 135 rfl) (V.ld_lsE (i := i2) (o := 0) (cs := [.bool (Q.neg z1.q), Vs z1.A (Q.m z1.q) z1.c, .bool false, Vs z1.A' z1.q.den z1.c']) (Own.lsn (n := l.length) (c := l.length) h.g.1.2.2.1 ⟨by rw [List.length_map]; exact hacc, Nat.le_refl _, by omega⟩) ez1_ Tryz.underlying39)
     ·exact V.z1 rfl fun h => V.xm (V.eo h 9 s9)
     ·exact V.z1 rfl fun h => V.xm (V.eo h 17 s17)
     ·exact V.z1 rfl fun h => V.xi (i := j2) (Own.lsn (n := l.length) (c := l.length) h.g.1.2.2.1 ⟨by rw [List.length_map]; exact hacc, Nat.le_refl _, by omega⟩) ez2_ (V.ed h 4 137 rfl) (V.ed h 5 138 rfl)
     ·exact V.z1 rfl fun h => V.xl (V.ed h 6 139 rfl) (V.ld_lsE (i := j2) (o := 0) (cs := [.bool (Q.neg z2.q), Vs z2.A (Q.m z2.q) z2.c, .bool false, Vs z2.A' z2.q.den z2.c']) (Own.lsn (n := l.length) (c := l.length) h.g.1.2.2.1 ⟨by rw [List.length_map]; exact hacc, Nat.le_refl _, by omega⟩) ez2_ Tryz.underlying39)
     ·refine V.s2 rfl fun f W h => ?_
      refine V.call en19 (V.args2 (V.ed h 3 136 rfl) (V.ed h 7 140 rfl)) (Calls.mono (Cmp_s h.g.1.2.2.2.2.2.1 h.g.1.2.2.2.2.2.2 (hsz1.mono (by decide)) (hsz2.mono (by decide))) ?_)
      rintro e W' ⟨rfl, hb⟩
      exact ⟨_, rfl, rfl, hb⟩
     ·exact V.z1 rfl fun h => V.xs (V.ed h 8 141 rfl)
    intro f172 W173 hE174
    clear r157 r158 r159 r160 r161 fz1 fz2
    obtain ⟨⟨r157, r158, r159, r160, r161, fz1, fz2⟩, hsz⟩ := hE174.g
    obtain ⟨s1, s9, s10, s16, s17⟩ := V.e5 hE174 s1 s9 s10 s16 s17
    have s18 := V.es hE174 9 18 rfl
    clear hE174 hsz
    refine V.t_done rfl (V.nx (V.seq ?_))
    refine V.reg 24 [V.E (.slice (some ⟨g97, 0, none⟩) l.length l.length), V.E (.int .i64 (i2 : Int)), V.E (.pointer (some ((adr (some ⟨g97, 0, none⟩)).add (i2 * 1 + 0)))), V.E (.bool b1), V.E (.bool b1), (V.Gd b1 (V.E (.slice (some ⟨g97, 0, none⟩) l.length l.length))), (V.Gd b1 (V.E (.int .i64 (j2 : Int)))), (V.Gd b1 (V.E (.pointer (some ((adr (some ⟨g97, 0, none⟩)).add (j2 * 1 + 0)))))), (V.Gd b1 (V.E (.bool b2))), (V.Gd b1 (V.E (.bool (!b2)))), V.E (.bool (b1 && (!b2))), V.E (.bool (b1 && (!b2))), (V.Gd (b1 && (!b2)) (V.E (.int .i64 (Q.cmp z1.q z2.q)))), (V.Gd (b1 && (!b2)) (V.E (.bool (decide ((Q.cmp z1.q z2.q) < 0))))), (V.Gd (b1 && (!b2)) (V.E (.bool (decide ((Q.cmp z1.q z2.q) < 0))))), (V.Gd ((b1 && (!b2)) && (!(decide ((Q.cmp z1.q z2.q) < 0)))) (V.E (.int .i64 (Q.cmp z1.q z2.q)))), (V.Gd ((b1 && (!b2)) && (!(decide ((Q.cmp z1.q z2.q) < 0)))) (V.E (.bool ((Q.cmp z1.q z2.q) == (0 : Int))))), (V.Gd ((b1 && (!b2)) && (!(decide ((Q.cmp z1.q z2.q) < 0)))) (V.E (.bool ((Q.cmp z1.q z2.q) == (0 : Int))))), (V.Gd (((b1 && (!b2)) && (!(decide ((Q.cmp z1.q z2.q) < 0)))) && ((Q.cmp z1.q z2.q) == (0 : Int))) (V.E (.int .i64 (j2 : Int)))), (V.Gd (((b1 && (!b2)) && (!(decide ((Q.cmp z1.q z2.q) < 0)))) && ((Q.cmp z1.q z2.q) == (0 : Int))) (V.E (.int .i64 (i2 : Int)))), (V.Gd (((b1 && (!b2)) && (!(decide ((Q.cmp z1.q z2.q) < 0)))) && ((Q.cmp z1.q z2.q) == (0 : Int))) (V.E (.bool (decide ((j2 : Int) < (i2 : Int)))))), (V.Gd ((b1 && (!b2)) && (!(decide ((Q.cmp z1.q z2.q) < 0)))) (V.E (.bool (((Q.cmp z1.q z2.q) == (0 : Int)) && (decide ((j2 : Int) < (i2 : Int))))))), (V.Gd (b1 && (!b2)) (V.E (.bool ((decide ((Q.cmp z1.q z2.q) < 0)) || (((Q.cmp z1.q z2.q) == (0 : Int)) && (decide ((j2 : Int) < (i2 : Int)))))))), V.E (.bool ((b1 && (!b2)) && ((decide ((Q.cmp z1.q z2.q) < 0)) || (((Q.cmp z1.q z2.q) == (0 : Int)) && (decide ((j2 : Int) < (i2 : Int)))))))] [] (V.i r157 (V.i r158 (V.i r159 (V.i r160 (V.i r161 (V.i fz1 fz2)))))) ?_ ?_
    ·refine V.ac ?_ (V.ac ?_ (V.ac ?_ (V.ac ?_ (V.ac ?_ (V.ac ?_ (V.ac ?_ (V.ac ?_ (V.ac ?_ (V.ac ?_ (V.ac ?_ (V.ac ?_ (V.ac ?_ (V.ac ?_ (V.ac ?_ (V.ac ?_ (V.ac ?_ (V.ac ?_ (V.ac ?_ (V.ac ?_ (V.ac ?_ (V.ac ?_ (V.ac ?_ (V.ac ?_ V.an)))))))))))))))))))))))
     ·exact V.z1 rfl fun h => V.xm (V.eo h 10 s10)
     ·exact V.z1 rfl fun h => V.xm (V.eo h 16 s16)
     ·exact V.z1 rfl fun h => V.xi (i := i2) (Own.lsn (n := l.length) (c := l.length) h.g.1.2.2.2.2.1 ⟨by rw [List.length_map]; exact hbl, Nat.le_refl _, by omega⟩) eb1_ (V.ed h 0 142 rfl) (V.ed h 1 143 rfl)
     ·exact V.z1 rfl fun h => V.xl (V.ed h 2 144 rfl) (V.ld_ls1 (i := i2) (o := 0) (Own.lsn (n := l.length) (c := l.length) h.g.1.2.2.2.2.1 ⟨by rw [List.length_map]; exact hbl, Nat.le_refl _, by omega⟩) eb1_ rfl)
     ·exact V.z1 rfl fun h => V.xm (V.ed h 3 145 rfl)
     ·exact V.gt 4 146 rfl rfl fun hp f W h => V.v1 (V.xm (V.eo h 10 s10))
     ·exact V.gt 4 146 rfl rfl fun hp f W h => V.v1 (V.xm (V.eo h 17 s17))
     ·exact V.gt 4 146 rfl rfl fun hp f W h => V.v1 (V.xi (i := j2) (Own.lsn (n := l.length) (c := l.length) h.g.1.2.2.2.2.1 ⟨by rw [List.length_map]; exact hbl, Nat.le_refl _, by omega⟩) eb2_ (V.eg h 5 147 rfl hp) (V.eg h 6 148 rfl hp))
     ·exact V.gt 4 146 rfl rfl fun hp f W h => V.v1 (V.xl (V.eg h 7 149 rfl hp) (V.ld_ls1 (i := j2) (o := 0) (Own.lsn (n := l.length) (c := l.length) h.g.1.2.2.2.2.1 ⟨by rw [List.length_map]; exact hbl, Nat.le_refl _, by omega⟩) eb2_ rfl))
     ·exact V.gt 4 146 rfl rfl fun hp f W h => V.v1 (V.x_un (V.eg h 8 150 rfl hp))
     ·refine V.s1 rfl fun f W h => ?_
      have d151 := V.dp h 9 151 (by kernel_rfl) rfl
      exact V.x_and (V.ed h 4 146 rfl) (fun e => V.ev_tmp rfl (V.gd_on d151 e)) rfl
     ·exact V.z1 rfl fun h => V.xm (V.ed h 10 152 rfl)
     ·exact V.gt 11 153 rfl rfl fun hp f W h => V.v1 (V.xm (V.eo h 18 s18))
     ·exact V.gt 11 153 rfl rfl fun hp f W h => V.v1 (V.xb (V.eg h 12 154 rfl hp) rfl)
     ·exact V.gt 11 153 rfl rfl fun hp f W h => V.v1 (V.xm (V.eg h 13 155 rfl hp))
     ·exact V.g2f 14 156 rfl rfl fun hp f W h => V.v1 (V.xm (V.eo h 18 s18))
     ·exact V.g2f 14 156 rfl rfl fun hp f W h => V.v1 (V.xb (V.eg h 15 157 rfl hp) rfl)
     ·exact V.g2f 14 156 rfl rfl fun hp f W h => V.v1 (V.xm (V.eg h 16 158 rfl hp))
     ·exact V.g2t 17 159 rfl rfl fun hp f W h => V.v1 (V.xm (V.eo h 17 s17))
     ·exact V.g2t 17 159 rfl rfl fun hp f W h => V.v1 (V.xm (V.eo h 16 s16))
     ·exact V.g2t 17 159 rfl rfl fun hp f W h => V.v1 (V.xb (V.eg h 18 160 rfl hp) (V.eg h 19 161 rfl hp))
     ·refine V.g2f 14 156 rfl rfl fun hp f W h => ?_
      have d162 := V.dp h 20 162 (by kernel_rfl) rfl
      exact V.v2 (.bool (((Q.cmp z1.q z2.q) == (0 : Int)) && (decide ((j2 : Int) < (i2 : Int))))) (V.x_and (V.eg h 17 159 rfl hp) (fun e => V.ev_tmp rfl (V.gd_on d162 (V.and_i hp e))) rfl) rfl
     ·refine V.gt 11 153 rfl rfl fun hp f W h => ?_
      have d163 := V.dp h 21 163 (by kernel_rfl) rfl
      exact V.v2 (.bool ((decide ((Q.cmp z1.q z2.q) < 0)) || (((Q.cmp z1.q z2.q) == (0 : Int)) && (decide ((j2 : Int) < (i2 : Int)))))) (V.x_or (V.eg h 14 156 rfl hp) rfl (fun e => V.ev_tmp rfl (V.gd_on d163 (V.and_i hp (V.not_t e))))) rfl
     ·refine V.s1 rfl fun f W h => ?_
      have d164 := V.dp h 22 164 (by kernel_rfl) rfl
      exact V.x_and (V.ed h 11 153 rfl) (fun e => V.ev_tmp rfl (V.gd_on d164 e)) rfl
    intro f175 W176 hE177
    clear r157 r158 r159 r160 r161 fz1 fz2
    obtain ⟨⟨r157, r158, r159, r160, r161, fz1, fz2⟩, hsz⟩ := hE177.g
    obtain ⟨s1, s9, s10, s16, s17⟩ := V.e5 hE177 s1 s9 s10 s16 s17
    have s165 := V.es hE177 23 165 rfl
    clear hE177 hsz
    refine V.t_done rfl (V.nx ?_)
    have s165_ : f175 165 = .bool false := s165.trans (congrArg Value.bool (fair_no hfair))
    refine V.cond_f (V.ev_tmp rfl s165_) ?_
    refine V.skip ?_
    refine V.bn (V.nx ?_)
    refine V.reg 3 [V.E (.int .i64 (j2 : Int)), V.E (.int .i64 ((j2 : Int) + 1)), V.E (.int .i64 ((j2 : Int) + 1))] [] (V.i r157 (V.i r158 (V.i r159 (V.i r160 (V.i r161 (V.i fz1 fz2)))))) ?_ ?_
    ·refine V.ac ?_ (V.ac ?_ (V.ac ?_ V.an))
     ·exact V.z1 rfl fun h => V.xm (V.eo h 17 s17)
     ·refine V.s1 rfl fun f W h => ?_
      have hw178 : IntKind.i64.wrap ((j2 : Int) + 1) = (j2 : Int) + 1 := by exact IntWalk.i64_in _ (by omega)
      exact V.xb (V.ed h 0 131 rfl) rfl ((by kernel_rfl : _ = Result.ok (.int .i64 (IntKind.i64.wrap ((j2 : Int) + 1))) _).trans (by rw [hw178]))
     ·exact V.z1 rfl fun h => V.xs (V.ed h 1 132 rfl)
    intro f179 W180 hE181
    clear r157 r158 r159 r160 r161 fz1 fz2
    obtain ⟨⟨r157, r158, r159, r160, r161, fz1, fz2⟩, hsz⟩ := hE181.g
    obtain ⟨s1, s9, s10, s16⟩ := V.e4 hE181 s1 s9 s10 s16
    have s17 := V.es hE181 2 17 rfl
    clear hE181 hsz
    refine V.t_done rfl ?_
    refine V.handed (l.length - (j2 + 1)) (by have := hk162; omega) ⟨(j2 + 1), ⟨rfl, by omega⟩, ⟨s1, s9, s10, s16, (s17.trans (by simp))⟩, ⟨r157, r158, r159, r160, r161⟩⟩
 ·have s66_ : f127 66 = .bool true := s66.trans (by rw [hc130])
  refine V.cond_t (V.ev_tmp rfl s66_) ?_
  have hi : i < l.length := by have := of_decide_eq_true hc130; omega
  obtain ⟨x, mx, ex, ex_⟩ := V.at_map Cl.cells (l := l) (i := i) hi
  have gx := hgood x mx
  have gb1 := gx.b1
  obtain ⟨y, my, ey, ey_⟩ := V.at_map Fr.cells (l := xs69) (i := i) (by rw [n77.len]; exact hi)
  have fy := r122 y my
  have hyq := (n77.q i x y ex ey).trans (by rw [htt])
  obtain ⟨y0, _, _, _, f0, fc, _, _⟩ := n77.bounds hgood (by rw [htt]; exact n50.lev.nn) ey
  have f1 : fl y.q ≤ 1099511627776 := Int.le_trans (fl_cap (c := x.cap) (by rw [hyq]; grind)) gb1
  obtain ⟨p, ep, hp0, hpc, _⟩ := n50.one ex gx hyq
  have hp1 : p ≤ 1099511627776 := by omega
  have hys := ExP.sz n76 n77 h1 hgood h20 ex ey
  obtain ⟨hgo, hre⟩ := n50.got ex hyq ep
  obtain ⟨gt, hgt⟩ : ∃ gt : Bool, gt = decide (fl y.q < p) := ⟨_, rfl⟩
  have hgp := hgt.trans hgo
  have hpos0 : gt = true → 0 < y.q - ((fl y.q : Int) : Rat) := fun h => by rw [← hre]; exact n50.pos (of_decide_eq_true (hgp ▸ h))
  have ep_ : (rs45.map IntC)[i]? = some (IntC p) := by rw [List.getElem?_map, ep]; rfl
  have eb_ : (bs.map BoolC)[i]? = some (BoolC bs[i]) := by rw [List.getElem?_map, List.getElem?_eq_getElem (by omega)]; rfl
  refine V.skip ?_
  refine V.nx (V.seq (V.block (V.seq ?_)))
  refine V.reg 9 [V.E (.slice (some ⟨g68, 0, none⟩) l.length l.length), V.E (.int .i64 (i : Int)), V.E (.pointer (some ((adr (some ⟨g68, 0, none⟩)).add (i * 4 + 0)))), V.E (y.v), (fun v W => ∃ A182 : Option Addr, ∃ c183 : Nat, v = .tuple #[.agg #[.bool (decide (fl y.q < 0)), Vs A182 ((fl y.q).natAbs) c183], .int .i64 0] ∧ R16 W A182 ((Lb.limbs ((fl y.q).natAbs)).length) c183 (Lb.limbs ((fl y.q).natAbs))), (fun v W => ∃ A185 : Option Addr, ∃ c186 : Nat, v = .tuple #[.agg #[.bool (decide (fl y.q < 0)), Vs A185 ((fl y.q).natAbs) c186], .int .i64 0] ∧ R16 W A185 ((Lb.limbs ((fl y.q).natAbs)).length) c186 (Lb.limbs ((fl y.q).natAbs))), (fun v W => ∃ A187 : Option Addr, ∃ c188 : Nat, v = .agg #[.bool (decide (fl y.q < 0)), Vs A187 ((fl y.q).natAbs) c188] ∧ R16 W A187 ((Lb.limbs ((fl y.q).natAbs)).length) c188 (Lb.limbs ((fl y.q).natAbs))), V.E (.int .i64 0), V.Nb W128 35 #[.bool false, .slice none 0 0]] [8] (V.i r117 (V.i r118 (V.i r119 (V.i r120 (V.i r121 (V.i r122 (V.i r123 (V.i r124 (V.i r125 fy))))))))) ?_ ?_
  ·refine V.ac ?_ (V.ac ?_ (V.ac ?_ (V.ac ?_ (V.ac ?_ (V.ac ?_ (V.ac ?_ (V.ac ?_ (V.ac ?_ V.an))))))))
   ·exact V.z1 rfl fun h => V.xm (V.eo h 7 s7)
   ·exact V.z1 rfl fun h => V.xm (V.eo h 11 s11)
   ·exact V.z1 rfl fun h => V.xi (i := i) (Own.lsn (n := l.length) (c := l.length) h.g.1.2.2.2.2.1 ⟨by rw [List.length_map, n77.len], Nat.le_refl _, by omega⟩) ey_ (V.ed h 0 70 rfl) (V.ed h 1 71 rfl)
   ·exact V.z1 rfl fun h => V.xl (V.ed h 2 72 rfl) (V.ld_lsE (i := i) (o := 0) (cs := [.bool (Q.neg y.q), Vs y.A (Q.m y.q) y.c, .bool false, Vs y.A' y.q.den y.c']) (Own.lsn (n := l.length) (c := l.length) h.g.1.2.2.2.2.1 ⟨by rw [List.length_map, n77.len], Nat.le_refl _, by omega⟩) ey_ Tryz.underlying39)
   ·refine V.s2 rfl fun f W h => ?_
    refine V.call en15 (V.args1 (V.ed h 3 73 rfl)) (Calls.mono (Floor_s h.g.1.2.2.2.2.2.2.2.2.2 (hys.mono (by decide))) ?_)
    rintro e W' ⟨A182, c183, rfl, k184, hb⟩
    exact ⟨_, rfl, ⟨A182, c183, rfl, k184⟩, hb⟩
   ·refine V.s2 rfl fun f W h => ?_
    obtain ⟨A182, c183, a74, k4_0⟩ := V.dp h 4 74 (by kernel_rfl) rfl
    exact V.v2 (.tuple #[.agg #[.bool (decide (fl y.q < 0)), Vs A182 ((fl y.q).natAbs) c183], .int .i64 0]) (V.xm (V.ev_tmp rfl a74)) ⟨A182, c183, rfl, k4_0⟩
   ·refine V.s2 rfl fun f W h => ?_
    obtain ⟨A185, c186, a69, k5_0⟩ := V.dp h 5 69 (by kernel_rfl) rfl
    exact V.v2 (.agg #[.bool (decide (fl y.q < 0)), Vs A185 ((fl y.q).natAbs) c186]) (V.xe (V.ev_tmp rfl a69)) ⟨A185, c186, rfl, k5_0⟩
   ·refine V.s1 rfl fun f W h => ?_
    obtain ⟨A185, c186, a69, k5_0⟩ := V.dp h 5 69 (by kernel_rfl) rfl
    exact V.xe (V.ev_tmp rfl a69)
   ·exact V.sn rfl fun f W h => V.x_alloc
  have o_g41 := r120.blk.lt
  have o_g68 := r121.blk.lt
  have o_g86 := r123.blk.lt
  have o_g97 := r125.blk.lt
  have o_bel := r117.size
  have ob_r118 := r118.blt
  intro f190 W191 hE192
  clear r117 r118 r119 r120 r121 r122 r123 r124 r125 fy
  obtain ⟨⟨r117, r118, r119, r120, r121, r122, r123, r124, r125, fy⟩, hsz⟩ := hE192.g
  obtain ⟨s1, s5, s7, s9, s10, s11⟩ := V.e6 hE192 s1 s5 s7 s9 s10 s11
  obtain ⟨A187, c188, s75, r193⟩ := V.eq hE192 6 75 rfl
  have s76 := V.es hE192 7 76 rfl
  obtain ⟨g189, s12, b_g189, l_g189⟩ := V.eq hE192 8 12 rfl
  have m_g189 : w.heap.size ≤ g189 := Nat.le_trans o_bel l_g189
  have q_g41_g189 : g41 ≠ g189 := by omega
  have q_g68_g189 : g68 ≠ g189 := by omega
  have q_g86_g189 : g86 ≠ g189 := by omega
  have q_g97_g189 : g97 ≠ g189 := by omega
  have q_r118_g189 : 0 < l.length → (adr A).block ≠ g189 := fun h => Nat.ne_of_lt (Nat.lt_of_lt_of_le (ob_r118 h) l_g189)
  clear hE192 hsz
  clear o_bel o_g41 o_g68 o_g86 o_g97 ob_r118
  refine V.t_st (k := 9) rfl (V.x_store (V.ev_tmp rfl s12) (V.ev_tmp rfl s75) (V.st_row b_g189)) b_g189 fun W194 hs b' => ?_
  replace r117 := hs.bel r117 m_g189
  replace r118 := hs.ls r118 q_r118_g189
  replace r119 := (fun x_0 hx_0 => hs.fr (r119 x_0 hx_0))
  replace r120 := hs.own r120 q_g41_g189
  replace r121 := hs.own r121 q_g68_g189
  replace r122 := (fun x_0 hx_0 => hs.fr (r122 x_0 hx_0))
  replace r123 := hs.own r123 q_g86_g189
  replace r124 := (fun x_0 hx_0 => hs.fr (r124 x_0 hx_0))
  replace r125 := hs.own r125 q_g97_g189
  replace fy := hs.fr fy
  replace r193 := hs.r16 r193
  replace b_g189 := b'
  clear hs b'
  refine V.t_val (k := 10) (v := .int .i64 0) (t := 13) rfl rfl rfl (by kernel_rfl) trivial (V.xs (V.ev_tmp rfl s76)) ?_
  intro f195 e196 u197
  replace s1 : f195 1 = .slice A l.length c := (u197 1 (by decide)).trans s1
  replace s5 : f195 5 = .slice (some ⟨g41, 0, none⟩) l.length l.length := (u197 5 (by decide)).trans s5
  replace s7 : f195 7 = .slice (some ⟨g68, 0, none⟩) l.length l.length := (u197 7 (by decide)).trans s7
  replace s9 : f195 9 = .slice (some ⟨g86, 0, none⟩) l.length l.length := (u197 9 (by decide)).trans s9
  replace s10 : f195 10 = .slice (some ⟨g97, 0, none⟩) l.length l.length := (u197 10 (by decide)).trans s10
  replace s11 : f195 11 = .int .i64 (i : Int) := (u197 11 (by decide)).trans s11
  replace s75 : f195 75 = .agg #[.bool (decide (fl y.q < 0)), Vs A187 ((fl y.q).natAbs) c188] := (u197 75 (by decide)).trans s75
  replace s76 : f195 76 = .int .i64 0 := (u197 76 (by decide)).trans s76
  replace s12 : f195 12 = Vp g189 0 := (u197 12 (by decide)).trans s12
  have s13 := e196
  clear u197
  refine V.t_done rfl (V.nx (V.seq ?_))
  refine V.regF 8 [V.E (.agg #[.bool (decide (fl y.q < 0)), Vs A187 ((fl y.q).natAbs) c188]), (fun v W => ∃ z198 : Fr, v = z198.v ∧ Fr.ok W z198 ∧ (z198.q = ((1 : Nat) : Rat))), (fun v W => ∃ z201 : Fr, v = .agg #[.bool (Q.neg z201.q), Vs z201.A (Q.m z201.q) z201.c] ∧ Fr.ok W z201 ∧ (z201.q = ((1 : Nat) : Rat))), (fun v W => ∃ z202 : Fr, v = .tuple #[z202.v, .int .i64 0] ∧ Fr.ok W z202 ∧ (z202.q = ((fl y.q : Int) : Rat))), (fun v W => ∃ z205 : Fr, v = .tuple #[z205.v, .int .i64 0] ∧ Fr.ok W z205 ∧ (z205.q = ((fl y.q : Int) : Rat))), (fun v W => ∃ z206 : Fr, v = z206.v ∧ Fr.ok W z206 ∧ (z206.q = ((fl y.q : Int) : Rat))), V.E (.int .i64 0), V.Nb W194 39 #[.bool false, .slice none 0 0, .bool false, .slice none 0 0]] [7] (V.i r117 (V.i r118 (V.i r119 (V.i r120 (V.i r121 (V.i r122 (V.i r123 (V.i r124 (V.i r125 (V.i fy (V.i r193 b_g189))))))))))) [6] (fun _ => True) (fun _ _ => trivial) ?_ ?_ ?_
  ·refine V.ac ?_ (V.ac ?_ (V.ac ?_ (V.ac ?_ (V.ac ?_ (V.ac ?_ (V.ac ?_ (V.ac ?_ V.an)))))))
   ·exact V.z1 rfl fun h => V.xl (V.eo h 12 s12) (V.lr h.g.1.2.2.2.2.2.2.2.2.2.2.2 Tryz.underlying35)
   ·refine V.s2 rfl fun f W h => ?_
    refine V.call en17 (V.args1 rfl) (Calls.mono (RFrom (vv := 1) (by decide)) ?_)
    rintro e W' ⟨z198, rfl, k199, e200, hb⟩
    exact ⟨_, rfl, ⟨z198, rfl, k199, e200⟩, hb⟩
   ·refine V.s2 rfl fun f W h => ?_
    obtain ⟨z198, a79, k1_0, p1_0⟩ := V.dp h 1 79 (by kernel_rfl) rfl
    exact V.v2 (.agg #[.bool (Q.neg z198.q), Vs z198.A (Q.m z198.q) z198.c]) (V.xf (V.ev_tmp rfl a79)) ⟨z198, rfl, k1_0, p1_0⟩
   ·refine V.s2 rfl fun f W h => ?_
    obtain ⟨z201, a80, k2_0, p2_0⟩ := V.dp h 2 80 (by kernel_rfl) rfl
    refine V.call en16 (V.args2 (V.ed h 0 78 rfl) (V.ev_tmp rfl a80)) (Calls.mono (Make_z h.g.1.2.2.2.2.2.2.2.2.2.2.1 k2_0.n (by rw [p2_0]; rfl) ((Q.Sz.cap f0 f1).mono (by decide))) ?_)
    rintro e W' ⟨z202, rfl, k203, e204, hb⟩
    exact ⟨_, rfl, ⟨z202, rfl, k203, e204⟩, hb⟩
   ·refine V.s2 rfl fun f W h => ?_
    obtain ⟨z202, a81, k3_0, p3_0⟩ := V.dp h 3 81 (by kernel_rfl) rfl
    exact V.v2 (.tuple #[z202.v, .int .i64 0]) (V.xm (V.ev_tmp rfl a81)) ⟨z202, rfl, k3_0, p3_0⟩
   ·refine V.s2 rfl fun f W h => ?_
    obtain ⟨z205, a77, k4_0, p4_0⟩ := V.dp h 4 77 (by kernel_rfl) rfl
    exact V.v2 (z205.v) (V.xe (V.ev_tmp rfl a77)) ⟨z205, rfl, k4_0, p4_0⟩
   ·refine V.s1 rfl fun f W h => ?_
    obtain ⟨z205, a77, k4_0, p4_0⟩ := V.dp h 4 77 (by kernel_rfl) rfl
    exact V.xe (V.ev_tmp rfl a77)
   ·exact V.sn rfl fun f W h => V.x_alloc
  ·refine V.fl1 (V.fl_step rfl rfl fun f W h => ?_)
   ·obtain ⟨z205, a77, k4_0, p4_0⟩ := V.dp h 4 77 (by kernel_rfl) rfl
    exact ⟨.int .i64 0, fun _ _ => V.xe (V.ev_tmp rfl a77), rfl⟩
  have o_g41 := r120.blk.lt
  have o_g68 := r121.blk.lt
  have o_g86 := r123.blk.lt
  have o_g97 := r125.blk.lt
  have o_g189 := b_g189.lt
  have o_bel := r117.size
  have ob_r118 := r118.blt
  intro f208 W209 hE210
  clear r117 r118 r119 r120 r121 r122 r123 r124 r125 fy r193 b_g189
  obtain ⟨⟨r117, r118, r119, r120, r121, r122, r123, r124, r125, fy, r193, b_g189⟩, hsz⟩ := hE210.g
  obtain ⟨s1, s5, s7, s9, s10, s11⟩ := V.e6 hE210 s1 s5 s7 s9 s10 s11
  obtain ⟨z206, s82, r211, n212⟩ := V.eq hE210 5 82 rfl
  have s83 := V.es hE210 6 83 rfl
  obtain ⟨g207, s14, b_g207, l_g207⟩ := V.eq hE210 7 14 rfl
  have m_g207 : w.heap.size ≤ g207 := Nat.le_trans o_bel l_g207
  have q_g41_g207 : g41 ≠ g207 := by omega
  have q_g68_g207 : g68 ≠ g207 := by omega
  have q_g86_g207 : g86 ≠ g207 := by omega
  have q_g97_g207 : g97 ≠ g207 := by omega
  have q_g189_g207 : g189 ≠ g207 := by omega
  have q_r118_g207 : 0 < l.length → (adr A).block ≠ g207 := fun h => Nat.ne_of_lt (Nat.lt_of_lt_of_le (ob_r118 h) l_g207)
  clear hE210 hsz
  clear o_bel o_g41 o_g68 o_g86 o_g97 o_g189 ob_r118
  refine V.t_st (k := 8) rfl (V.x_store (V.ev_tmp rfl s14) (V.ev_tmp rfl s82) (V.st_row b_g207)) b_g207 fun W213 hs b' => ?_
  replace r117 := hs.bel r117 m_g207
  replace r118 := hs.ls r118 q_r118_g207
  replace r119 := (fun x_0 hx_0 => hs.fr (r119 x_0 hx_0))
  replace r120 := hs.own r120 q_g41_g207
  replace r121 := hs.own r121 q_g68_g207
  replace r122 := (fun x_0 hx_0 => hs.fr (r122 x_0 hx_0))
  replace r123 := hs.own r123 q_g86_g207
  replace r124 := (fun x_0 hx_0 => hs.fr (r124 x_0 hx_0))
  replace r125 := hs.own r125 q_g97_g207
  replace fy := hs.fr fy
  replace r193 := hs.r16 r193
  replace b_g189 := hs.blk b_g189 q_g189_g207
  replace r211 := hs.fr r211
  replace b_g207 := b'
  clear hs b'
  refine V.t_val (k := 9) (v := .int .i64 0) (t := 15) rfl rfl rfl (by kernel_rfl) trivial (V.xs (V.ev_tmp rfl s83)) ?_
  intro f214 e215 u216
  replace s1 : f214 1 = .slice A l.length c := (u216 1 (by decide)).trans s1
  replace s5 : f214 5 = .slice (some ⟨g41, 0, none⟩) l.length l.length := (u216 5 (by decide)).trans s5
  replace s7 : f214 7 = .slice (some ⟨g68, 0, none⟩) l.length l.length := (u216 7 (by decide)).trans s7
  replace s9 : f214 9 = .slice (some ⟨g86, 0, none⟩) l.length l.length := (u216 9 (by decide)).trans s9
  replace s10 : f214 10 = .slice (some ⟨g97, 0, none⟩) l.length l.length := (u216 10 (by decide)).trans s10
  replace s11 : f214 11 = .int .i64 (i : Int) := (u216 11 (by decide)).trans s11
  replace s82 : f214 82 = z206.v := (u216 82 (by decide)).trans s82
  replace s83 : f214 83 = .int .i64 0 := (u216 83 (by decide)).trans s83
  replace s14 : f214 14 = Vp g207 0 := (u216 14 (by decide)).trans s14
  have s15 := e215
  clear u216
  refine V.t_done rfl (V.nx (V.seq ?_))
  clear r193 b_g189
  refine V.regF 12 [V.E (.slice (some ⟨g86, 0, none⟩) l.length l.length), V.E (.int .i64 (i : Int)), V.E (.slice (some ⟨g68, 0, none⟩) l.length l.length), V.E (.int .i64 (i : Int)), V.E (.pointer (some ((adr (some ⟨g68, 0, none⟩)).add (i * 4 + 0)))), V.E (y.v), V.E (z206.v), (fun v W => ∃ z217 : Fr, v = .tuple #[z217.v, .int .i64 0] ∧ Fr.ok W z217 ∧ (z217.q = (y.q - ((fl y.q : Int) : Rat)))), (fun v W => ∃ z220 : Fr, v = .tuple #[z220.v, .int .i64 0] ∧ Fr.ok W z220 ∧ (z220.q = (y.q - ((fl y.q : Int) : Rat)))), (fun v W => ∃ z221 : Fr, v = z221.v ∧ Fr.ok W z221 ∧ (z221.q = (y.q - ((fl y.q : Int) : Rat)))), V.E (.int .i64 0), V.E (.pointer (some ((adr (some ⟨g86, 0, none⟩)).add (i * 4 + 0))))] [] (V.i r117 (V.i r118 (V.i r119 (V.i r120 (V.i r121 (V.i r122 (V.i r123 (V.i r124 (V.i r125 (V.i fy (V.i r211 b_g207))))))))))) [10] (fun _ => True) (fun _ _ => trivial) ?_ ?_ ?_
  ·refine V.ac ?_ (V.ac ?_ (V.ac ?_ (V.ac ?_ (V.ac ?_ (V.ac ?_ (V.ac ?_ (V.ac ?_ (V.ac ?_ (V.ac ?_ (V.ac ?_ (V.ac ?_ V.an)))))))))))
   ·exact V.z1 rfl fun h => V.xm (V.eo h 9 s9)
   ·exact V.z1 rfl fun h => V.xm (V.eo h 11 s11)
   ·exact V.z1 rfl fun h => V.xm (V.eo h 7 s7)
   ·exact V.z1 rfl fun h => V.xm (V.eo h 11 s11)
   ·exact V.z1 rfl fun h => V.xi (i := i) (Own.lsn (n := l.length) (c := l.length) h.g.1.2.2.2.2.1 ⟨by rw [List.length_map, n77.len], Nat.le_refl _, by omega⟩) ey_ (V.ed h 2 87 rfl) (V.ed h 3 88 rfl)
   ·exact V.z1 rfl fun h => V.xl (V.ed h 4 89 rfl) (V.ld_lsE (i := i) (o := 0) (cs := [.bool (Q.neg y.q), Vs y.A (Q.m y.q) y.c, .bool false, Vs y.A' y.q.den y.c']) (Own.lsn (n := l.length) (c := l.length) h.g.1.2.2.2.2.1 ⟨by rw [List.length_map, n77.len], Nat.le_refl _, by omega⟩) ey_ Tryz.underlying39)
   ·exact V.z1 rfl fun h => V.xl (V.eo h 14 s14) (V.lr h.g.1.2.2.2.2.2.2.2.2.2.2.2 Tryz.underlying39)
   ·refine V.s2 rfl fun f W h => ?_
    refine V.call en18 (V.args2 (V.ed h 5 90 rfl) (V.ed h 6 91 rfl)) (Calls.mono (Sub_s h.g.1.2.2.2.2.2.2.2.2.2.1 h.g.1.2.2.2.2.2.2.2.2.2.2.1 (hys.mono (by decide)) (by rw [n212]; exact ((Q.Sz.cap f0 f1).mono (by decide))) (by rw [n212]; exact ((hys.sub (Q.Sz.cap f0 f1)).mono (by decide)))) ?_)
    rintro e W' ⟨z217, rfl, k218, e219, hb⟩
    exact ⟨_, rfl, ⟨z217, rfl, k218, e219.trans (by rw [n212])⟩, hb⟩
   ·refine V.s2 rfl fun f W h => ?_
    obtain ⟨z217, a92, k7_0, p7_0⟩ := V.dp h 7 92 (by kernel_rfl) rfl
    exact V.v2 (.tuple #[z217.v, .int .i64 0]) (V.xm (V.ev_tmp rfl a92)) ⟨z217, rfl, k7_0, p7_0⟩
   ·refine V.s2 rfl fun f W h => ?_
    obtain ⟨z220, a84, k8_0, p8_0⟩ := V.dp h 8 84 (by kernel_rfl) rfl
    exact V.v2 (z220.v) (V.xe (V.ev_tmp rfl a84)) ⟨z220, rfl, k8_0, p8_0⟩
   ·refine V.s1 rfl fun f W h => ?_
    obtain ⟨z220, a84, k8_0, p8_0⟩ := V.dp h 8 84 (by kernel_rfl) rfl
    exact V.xe (V.ev_tmp rfl a84)
   ·exact V.z1 rfl fun h => V.xi (i := i) (Own.lsn h.g.1.2.2.2.2.2.2.1 ⟨by simp; omega, Nat.le_refl _, by omega⟩) (fill_get hacc hi) (V.ed h 0 85 rfl) (V.ed h 1 86 rfl)
  ·refine V.fl1 (V.fl_step rfl rfl fun f W h => ?_)
   ·obtain ⟨z220, a84, k8_0, p8_0⟩ := V.dp h 8 84 (by kernel_rfl) rfl
    exact ⟨.int .i64 0, fun _ _ => V.xe (V.ev_tmp rfl a84), rfl⟩
  intro f222 W223 hE224
  clear r117 r118 r119 r120 r121 r122 r123 r124 r125 fy r211 b_g207
  obtain ⟨⟨r117, r118, r119, r120, r121, r122, r123, r124, r125, fy, r211, b_g207⟩, hsz⟩ := hE224.g
  obtain ⟨s1, s5, s7, s9, s10, s11, s14⟩ := V.e7 hE224 s1 s5 s7 s9 s10 s11 s14
  obtain ⟨z221, s93, r225, n226⟩ := V.eq hE224 9 93 rfl
  have s95 := V.es hE224 11 95 rfl
  clear hE224 hsz
  refine V.t_skip (k := 12) rfl rfl rfl (by kernel_rfl) trivial (V.x_store (V.ev_tmp rfl s95) (V.ev_tmp rfl s93) (V.st_own (i := i) (x := [.bool (Q.neg z221.q), Vs z221.A (Q.m z221.q) z221.c, .bool false, Vs z221.A' z221.q.den z221.c']) r123 (by simp; omega) rfl (by kernel_rfl) (by kernel_rfl))) ?_
  replace r117 := V.bel_far (cs := ((((acc.map Fr.cells) ++ List.replicate (l.length - i) zF).set i [.bool (Q.neg z221.q), Vs z221.A (Q.m z221.q) z221.c, .bool false, Vs z221.A' z221.q.den z221.c']).flatten ++ []).toArray) r117 m_g86
  replace r118 := Ls.far r118 q93 (((((acc.map Fr.cells) ++ List.replicate (l.length - i) zF).set i [.bool (Q.neg z221.q), Vs z221.A (Q.m z221.q) z221.c, .bool false, Vs z221.A' z221.q.den z221.c']).flatten ++ []).toArray)
  replace r119 := (fun x_0 hx_0 => Fr.ok.far (cs' := ((((acc.map Fr.cells) ++ List.replicate (l.length - i) zF).set i [.bool (Q.neg z221.q), Vs z221.A (Q.m z221.q) z221.c, .bool false, Vs z221.A' z221.q.den z221.c']).flatten ++ []).toArray) (r119 x_0 hx_0) r123.blk (nl_fill _ _))
  replace r120 := Own.far (cs := ((((acc.map Fr.cells) ++ List.replicate (l.length - i) zF).set i [.bool (Q.neg z221.q), Vs z221.A (Q.m z221.q) z221.c, .bool false, Vs z221.A' z221.q.den z221.c']).flatten ++ []).toArray) r120 q94
  replace r121 := Own.far (cs := ((((acc.map Fr.cells) ++ List.replicate (l.length - i) zF).set i [.bool (Q.neg z221.q), Vs z221.A (Q.m z221.q) z221.c, .bool false, Vs z221.A' z221.q.den z221.c']).flatten ++ []).toArray) r121 q95
  replace r122 := (fun x_0 hx_0 => Fr.ok.far (cs' := ((((acc.map Fr.cells) ++ List.replicate (l.length - i) zF).set i [.bool (Q.neg z221.q), Vs z221.A (Q.m z221.q) z221.c, .bool false, Vs z221.A' z221.q.den z221.c']).flatten ++ []).toArray) (r122 x_0 hx_0) r123.blk (nl_fill _ _))
  replace r124 := (fun x_0 hx_0 => Fr.ok.far (cs' := ((((acc.map Fr.cells) ++ List.replicate (l.length - i) zF).set i [.bool (Q.neg z221.q), Vs z221.A (Q.m z221.q) z221.c, .bool false, Vs z221.A' z221.q.den z221.c']).flatten ++ []).toArray) (r124 x_0 hx_0) r123.blk (nl_fill _ _))
  replace r125 := Own.far (cs := ((((acc.map Fr.cells) ++ List.replicate (l.length - i) zF).set i [.bool (Q.neg z221.q), Vs z221.A (Q.m z221.q) z221.c, .bool false, Vs z221.A' z221.q.den z221.c']).flatten ++ []).toArray) r125 (Ne.symm q107)
  replace fy := Fr.ok.far (cs' := ((((acc.map Fr.cells) ++ List.replicate (l.length - i) zF).set i [.bool (Q.neg z221.q), Vs z221.A (Q.m z221.q) z221.c, .bool false, Vs z221.A' z221.q.den z221.c']).flatten ++ []).toArray) fy r123.blk (nl_fill _ _)
  replace r211 := Fr.ok.far (cs' := ((((acc.map Fr.cells) ++ List.replicate (l.length - i) zF).set i [.bool (Q.neg z221.q), Vs z221.A (Q.m z221.q) z221.c, .bool false, Vs z221.A' z221.q.den z221.c']).flatten ++ []).toArray) r211 r123.blk (nl_fill _ _)
  replace b_g207 := V.blk_far (cs := ((((acc.map Fr.cells) ++ List.replicate (l.length - i) zF).set i [.bool (Q.neg z221.q), Vs z221.A (Q.m z221.q) z221.c, .bool false, Vs z221.A' z221.q.den z221.c']).flatten ++ []).toArray) b_g207 (Ne.symm q_g86_g207)
  replace r225 := Fr.ok.far (cs' := ((((acc.map Fr.cells) ++ List.replicate (l.length - i) zF).set i [.bool (Q.neg z221.q), Vs z221.A (Q.m z221.q) z221.c, .bool false, Vs z221.A' z221.q.den z221.c']).flatten ++ []).toArray) r225 r123.blk (nl_fill _ _)
  replace r123 := Own.set (i := i) (x := [.bool (Q.neg z221.q), Vs z221.A (Q.m z221.q) z221.c, .bool false, Vs z221.A' z221.q.den z221.c']) r123 rfl
  generalize W223.setRow g86 ((((acc.map Fr.cells) ++ List.replicate (l.length - i) zF).set i [.bool (Q.neg z221.q), Vs z221.A (Q.m z221.q) z221.c, .bool false, Vs z221.A' z221.q.den z221.c']).flatten ++ []).toArray = W227 at *
  have r123_ : Own W227 g86 39 4 (((acc ++ [z221]).map Fr.cells) ++ List.replicate (l.length - (i + 1)) zF) [] := by rw [← fill_set hacc hi]; exact r123
  clear r123
  have r123 := r123_
  clear r123_
  have ez_ : (((acc ++ [z221]).map Fr.cells) ++ List.replicate (l.length - (i + 1)) zF)[i]? = some z221.cells := fill_at hacc
  refine V.t_done rfl (V.nx (V.seq ?_))
  refine V.reg 11 [V.E (.slice (some ⟨g97, 0, none⟩) l.length l.length), V.E (.int .i64 (i : Int)), V.E (.slice (some ⟨g41, 0, none⟩) l.length l.length), V.E (.int .i64 (i : Int)), V.E (.pointer (some ((adr (some ⟨g41, 0, none⟩)).add (i * 1 + 0)))), V.E (.int .i64 p), (fun v W => ∃ z228 : Fr, v = z228.v ∧ Fr.ok W z228 ∧ (z228.q = (((p : Int) : Rat) : Rat))), V.E (z206.v), V.E (.int .i64 (Q.cmp (((p : Int) : Rat) : Rat) ((fl y.q : Int) : Rat))), V.E (.bool gt), V.E (.pointer (some ((adr (some ⟨g97, 0, none⟩)).add (i * 1 + 0))))] [] (V.i r117 (V.i r118 (V.i r119 (V.i r120 (V.i r121 (V.i r122 (V.i r123 (V.i r124 (V.i r125 (V.i fy (V.i r211 (V.i b_g207 r225)))))))))))) ?_ ?_
  ·refine V.ac ?_ (V.ac ?_ (V.ac ?_ (V.ac ?_ (V.ac ?_ (V.ac ?_ (V.ac ?_ (V.ac ?_ (V.ac ?_ (V.ac ?_ (V.ac ?_ V.an))))))))))
   ·exact V.z1 rfl fun h => V.xm (V.eo h 10 s10)
   ·exact V.z1 rfl fun h => V.xm (V.eo h 11 s11)
   ·exact V.z1 rfl fun h => V.xm (V.eo h 5 s5)
   ·exact V.z1 rfl fun h => V.xm (V.eo h 11 s11)
   ·exact V.z1 rfl fun h => V.xi (i := i) (Own.lsn (n := l.length) (c := l.length) h.g.1.2.2.2.1 ⟨by rw [List.length_map, n50.len], Nat.le_refl _, by omega⟩) ep_ (V.ed h 2 98 rfl) (V.ed h 3 99 rfl)
   ·exact V.z1 rfl fun h => V.xl (V.ed h 4 100 rfl) (V.ld_ls1 (i := i) (o := 0) (Own.lsn (n := l.length) (c := l.length) h.g.1.2.2.2.1 ⟨by rw [List.length_map, n50.len], Nat.le_refl _, by omega⟩) ep_ rfl)
   ·refine V.s2 rfl fun f W h => ?_
    refine V.call en20 (V.args1 (V.ed h 5 101 rfl)) (Calls.mono (FromInt_s (x := p) (by omega) (by omega)) ?_)
    rintro e W' ⟨z228, rfl, k229, e230, hb⟩
    exact ⟨_, rfl, ⟨z228, rfl, k229, e230⟩, hb⟩
   ·exact V.z1 rfl fun h => V.xl (V.eo h 14 s14) (V.lr h.g.1.2.2.2.2.2.2.2.2.2.2.2.1 Tryz.underlying39)
   ·refine V.s2 rfl fun f W h => ?_
    obtain ⟨z228, a102, k6_0, p6_0⟩ := V.dp h 6 102 (by kernel_rfl) rfl
    refine V.call en19 (V.args2 (V.ev_tmp rfl a102) (V.ed h 7 103 rfl)) (Calls.mono (Cmp_s k6_0 h.g.1.2.2.2.2.2.2.2.2.2.2.1 (by rw [p6_0]; exact ((Q.Sz.cap hp0 hp1).mono (by decide))) (by rw [n212]; exact ((Q.Sz.cap f0 f1).mono (by decide)))) ?_)
    rintro e W' ⟨e231, hb⟩
    rw [p6_0, n212] at e231
    subst e231
    exact ⟨_, rfl, rfl, hb⟩
   ·exact V.z1 rfl fun h => V.xb (V.ed h 8 104 rfl) rfl ((by kernel_rfl : _ = Result.ok (.bool (decide (0 < (Q.cmp (((p : Int) : Rat) : Rat) ((fl y.q : Int) : Rat))))) _).trans (by rw [show (decide (0 < (Q.cmp (((p : Int) : Rat) : Rat) ((fl y.q : Int) : Rat)))) = gt from cmp_gt_int.trans hgt.symm]))
   ·exact V.z1 rfl fun h => V.xi (i := i) (Own.lsn (n := l.length) (c := l.length) h.g.1.2.2.2.2.2.2.2.2.1 ⟨by rw [List.length_map]; exact hbl, Nat.le_refl _, by omega⟩) eb_ (V.ed h 0 96 rfl) (V.ed h 1 97 rfl)
  intro f232 W233 hE234
  clear r117 r118 r119 r120 r121 r122 r123 r124 r125 fy r211 b_g207 r225
  obtain ⟨⟨r117, r118, r119, r120, r121, r122, r123, r124, r125, fy, r211, b_g207, r225⟩, hsz⟩ := hE234.g
  obtain ⟨s1, s5, s7, s9, s10, s11⟩ := V.e6 hE234 s1 s5 s7 s9 s10 s11
  have s105 := V.es hE234 9 105 rfl
  have s106 := V.es hE234 10 106 rfl
  clear hE234 hsz
  refine V.t_skip (k := 11) rfl rfl rfl (by kernel_rfl) trivial (V.x_store (V.ev_tmp rfl s106) (V.ev_tmp rfl s105) (V.st_own1 (i := i) (v := .bool gt) r125 (by rw [List.length_map]; omega) (fun _ => by kernel_rfl) (by kernel_rfl))) ?_
  replace r117 := V.bel_far (cs := (((bs.map BoolC).set i [.bool gt]).flatten ++ []).toArray) r117 m_g97
  replace r118 := Ls.far r118 q104 ((((bs.map BoolC).set i [.bool gt]).flatten ++ []).toArray)
  replace r119 := (fun x_0 hx_0 => Fr.ok.far (cs' := (((bs.map BoolC).set i [.bool gt]).flatten ++ []).toArray) (r119 x_0 hx_0) r125.blk (nl_bools _))
  replace r120 := Own.far (cs := (((bs.map BoolC).set i [.bool gt]).flatten ++ []).toArray) r120 q105
  replace r121 := Own.far (cs := (((bs.map BoolC).set i [.bool gt]).flatten ++ []).toArray) r121 q106
  replace r122 := (fun x_0 hx_0 => Fr.ok.far (cs' := (((bs.map BoolC).set i [.bool gt]).flatten ++ []).toArray) (r122 x_0 hx_0) r125.blk (nl_bools _))
  replace r123 := Own.far (cs := (((bs.map BoolC).set i [.bool gt]).flatten ++ []).toArray) r123 q107
  replace r124 := (fun x_0 hx_0 => Fr.ok.far (cs' := (((bs.map BoolC).set i [.bool gt]).flatten ++ []).toArray) (r124 x_0 hx_0) r125.blk (nl_bools _))
  replace fy := Fr.ok.far (cs' := (((bs.map BoolC).set i [.bool gt]).flatten ++ []).toArray) fy r125.blk (nl_bools _)
  replace r211 := Fr.ok.far (cs' := (((bs.map BoolC).set i [.bool gt]).flatten ++ []).toArray) r211 r125.blk (nl_bools _)
  replace b_g207 := V.blk_far (cs := (((bs.map BoolC).set i [.bool gt]).flatten ++ []).toArray) b_g207 (Ne.symm q_g97_g207)
  replace r225 := Fr.ok.far (cs' := (((bs.map BoolC).set i [.bool gt]).flatten ++ []).toArray) r225 r125.blk (nl_bools _)
  replace r125 := Own.set (i := i) (x := [.bool gt]) r125 rfl
  generalize W233.setRow g97 (((bs.map BoolC).set i [.bool gt]).flatten ++ []).toArray = W235 at *
  have r125_ : Own W235 g97 4 1 ((bs.set i gt).map BoolC) [] := by rw [List.map_set]; exact r125
  clear r125
  have r125 := r125_
  clear r125_
  have eg_ : ((bs.set i gt).map BoolC)[i]? = some (BoolC gt) := by rw [List.getElem?_map, List.getElem?_set_self (by omega)]; rfl
  have hzq : z221.q = rest t42 l i := n226.trans hre.symm
  have hpos : gt = true → 0 < z221.q := fun h => by rw [hzq, hre]; exact hpos0 h
  refine V.t_done rfl (V.nx (V.seq ?_))
  clear r211 b_g207
  refine V.reg 14 [V.E (.slice (some ⟨g97, 0, none⟩) l.length l.length), V.E (.int .i64 (i : Int)), V.E (.pointer (some ((adr (some ⟨g97, 0, none⟩)).add (i * 1 + 0)))), V.E (.bool gt), V.E (.bool gt), (V.Gd gt (V.E (.slice (some ⟨g86, 0, none⟩) l.length l.length))), (V.Gd gt (V.E (.int .i64 (i : Int)))), (V.Gd gt (V.E (.pointer (some ((adr (some ⟨g86, 0, none⟩)).add (i * 4 + 0)))))), (V.Gd gt (V.E (.pointer (some ((adr (some ⟨g86, 0, none⟩)).add (i * 4 + 0)))))), (V.Gd gt (V.E (.pointer (some ((adr (some ⟨g86, 0, none⟩)).add (i * 4 + 1)))))), (V.Gd gt (V.E (Vs z221.A (Q.m z221.q) z221.c))), (V.Gd gt (V.E (.int .i64 ((Lb.limbs (Q.m z221.q)).length : Int)))), (V.Gd gt (V.E (.bool (((Lb.limbs (Q.m z221.q)).length : Int) == (0 : Int))))), V.E (.bool (gt && (((Lb.limbs (Q.m z221.q)).length : Int) == (0 : Int))))] [] (V.i r117 (V.i r118 (V.i r119 (V.i r120 (V.i r121 (V.i r122 (V.i r123 (V.i r124 (V.i r125 (V.i fy r225)))))))))) ?_ ?_
  ·refine V.ac ?_ (V.ac ?_ (V.ac ?_ (V.ac ?_ (V.ac ?_ (V.ac ?_ (V.ac ?_ (V.ac ?_ (V.ac ?_ (V.ac ?_ (V.ac ?_ (V.ac ?_ (V.ac ?_ (V.ac ?_ V.an)))))))))))))
   ·exact V.z1 rfl fun h => V.xm (V.eo h 10 s10)
   ·exact V.z1 rfl fun h => V.xm (V.eo h 11 s11)
   ·exact V.z1 rfl fun h => V.xi (i := i) (Own.lsn (n := l.length) (c := l.length) h.g.1.2.2.2.2.2.2.2.2.1 ⟨by rw [List.length_map, List.length_set]; exact hbl, Nat.le_refl _, by omega⟩) eg_ (V.ed h 0 107 rfl) (V.ed h 1 108 rfl)
   ·exact V.z1 rfl fun h => V.xl (V.ed h 2 109 rfl) (V.ld_ls1 (i := i) (o := 0) (Own.lsn (n := l.length) (c := l.length) h.g.1.2.2.2.2.2.2.2.2.1 ⟨by rw [List.length_map, List.length_set]; exact hbl, Nat.le_refl _, by omega⟩) eg_ rfl)
   ·exact V.z1 rfl fun h => V.xm (V.ed h 3 110 rfl)
   ·exact V.gt 4 111 rfl rfl fun hp f W h => V.v1 (V.xm (V.eo h 9 s9))
   ·exact V.gt 4 111 rfl rfl fun hp f W h => V.v1 (V.xm (V.eo h 11 s11))
   ·exact V.gt 4 111 rfl rfl fun hp f W h => V.v1 (V.xi (i := i) (Own.lsn (n := l.length) (c := l.length) h.g.1.2.2.2.2.2.2.1 ⟨by rw [List.length_append, List.length_map, List.length_append, List.length_replicate, hacc, List.length_singleton]; omega, Nat.le_refl _, by omega⟩) ez_ (V.eg h 5 112 rfl hp) (V.eg h 6 113 rfl hp))
   ·exact V.gt 4 111 rfl rfl fun hp f W h => V.v1 (V.x_fieldP (j := i * 4 + 0) (k := 0) (V.eg h 7 114 rfl hp) (fun _ => by kernel_rfl))
   ·exact V.gt 4 111 rfl rfl fun hp f W h => V.v1 (V.x_fieldP (j := i * 4 + 0) (k := 1) (V.eg h 8 115 rfl hp) (fun _ => by kernel_rfl))
   ·exact V.gt 4 111 rfl rfl fun hp f W h => V.v1 (V.xl (V.eg h 9 116 rfl hp) (V.ld_ls1 (i := i) (o := 1) (Own.lsn (n := l.length) (c := l.length) h.g.1.2.2.2.2.2.2.1 ⟨by rw [List.length_append, List.length_map, List.length_append, List.length_replicate, hacc, List.length_singleton]; omega, Nat.le_refl _, by omega⟩) ez_ rfl))
   ·exact V.gt 4 111 rfl rfl fun hp f W h => V.v1 (V.x_len (V.eg h 10 117 rfl hp))
   ·exact V.gt 4 111 rfl rfl fun hp f W h => V.v1 (V.xb (V.eg h 11 118 rfl hp) rfl)
   ·refine V.s1 rfl fun f W h => ?_
    have d119 := V.dp h 12 119 (by kernel_rfl) rfl
    exact V.x_and (V.ed h 4 111 rfl) (fun e => V.ev_tmp rfl (V.gd_on d119 e)) rfl
  intro f236 W237 hE238
  clear r117 r118 r119 r120 r121 r122 r123 r124 r125 fy r225
  obtain ⟨⟨r117, r118, r119, r120, r121, r122, r123, r124, r125, fy, r225⟩, hsz⟩ := hE238.g
  obtain ⟨s1, s5, s7, s9, s10, s11⟩ := V.e6 hE238 s1 s5 s7 s9 s10 s11
  have s120 := V.es hE238 13 120 rfl
  clear hE238 hsz
  refine V.t_done rfl (V.nx ?_)
  have s120_ : f236 120 = .bool false := s120.trans (congrArg Value.bool (no_rest hpos))
  refine V.cond_f (V.ev_tmp rfl s120_) ?_
  refine V.skip ?_
  refine V.bn (V.nx ?_)
  refine V.reg 3 [V.E (.int .i64 (i : Int)), V.E (.int .i64 ((i : Int) + 1)), V.E (.int .i64 ((i : Int) + 1))] [] (V.i r117 (V.i r118 (V.i r119 (V.i r120 (V.i r121 (V.i r122 (V.i r123 (V.i r124 (V.i r125 (V.i fy r225)))))))))) ?_ ?_
  ·refine V.ac ?_ (V.ac ?_ (V.ac ?_ V.an))
   ·exact V.z1 rfl fun h => V.xm (V.eo h 11 s11)
   ·refine V.s1 rfl fun f W h => ?_
    have hw239 : IntKind.i64.wrap ((i : Int) + 1) = (i : Int) + 1 := by exact IntWalk.i64_in _ (by omega)
    exact V.xb (V.ed h 0 67 rfl) rfl ((by kernel_rfl : _ = Result.ok (.int .i64 (IntKind.i64.wrap ((i : Int) + 1))) _).trans (by rw [hw239]))
   ·exact V.z1 rfl fun h => V.xs (V.ed h 1 68 rfl)
  intro f240 W241 hE242
  clear r117 r118 r119 r120 r121 r122 r123 r124 r125 fy r225
  obtain ⟨⟨r117, r118, r119, r120, r121, r122, r123, r124, r125, fy, r225⟩, hsz⟩ := hE242.g
  obtain ⟨s1, s5, s7, s9, s10⟩ := V.e5 hE242 s1 s5 s7 s9 s10
  have s11 := V.es hE242 2 11 rfl
  clear hE242 hsz
  refine V.t_done rfl ?_
  have r243 : ∀ x ∈ (acc ++ [z221]), Fr.ok W241 x := all_snoc r124 r225
  refine V.handed (l.length - (i + 1)) (by have := hk126; omega) ⟨(i + 1), (acc ++ [z221]), (bs.set i gt), ⟨rfl, by omega, by simp [hacc], by rw [List.length_set]; exact hbl, snoc_rest hrests hacc hzq, all_snoc hszs (by rw [n226]; exact (hys.sub (Q.Sz.cap f0 f1)).mono (by decide)), set_got hgots (by omega) hgp⟩, ⟨s1, s5, s7, s9, s10, (s11.trans (by simp))⟩, ⟨r117, r118, r119, r120, r121, r122, r123, r243, r125⟩⟩
end Go.Proofs.YtjbcalbbhomkjaaGreat
namespace Go.Proofs.YtjbcalbbhomkjaaGreat
open Go.ChangeShapes Go.WideShapes Go.ChangeAt Go.RowKit Go.Deep
theorem fair_law {a : Int} {A : Option Addr} {c : Nat} {l : List Rc} {w : World} (hl : Ls w 6 A l.length c (l.map Rc.cells)) (hfr : ∀ x ∈ l, Rc.ok w x) :
  Calls Tryz.prog 3 #[.int .i64 a, .slice A l.length c] w fun e w' => e = .returned (.bool true) ∧ Below w.heap.size w w' := by
 cases h : usableB a l with
 | false => exact fair_no_ hl hfr h
 | true =>
  obtain ⟨k, rfl, hV, h10, h0, h1⟩ := usable_typed hfr h
  rw [List.length_map] at hl ⊢
  exact fair_yes (typed_ls hl) (typed_ok hfr) hV h10 h0 h1
set_option maxRecDepth 100000 in
theorem fair_lifted (os : Os) (started : os.Started) (H : Type) (enc : TypeId × Value → H) :
  ReturnsInHanded {} Tryz.checked os 3 .any (Rows.survivorFairSpec.pre6 enc Tryz.prog Tryz.f3 Rows.survivorFairRow.domain false) (Rows.survivorFairSpec.post enc Tryz.prog Tryz.f3 false true false false) := by
 refine returnsInHanded_of_change (C := Tryz.checked) Tryz.own started (by kernel_rfl) Tryz.func3
  (ChangeSpec.witness6 (enc := enc) (C := Tryz.checked) false ⟨#[], #[.int .i64 0, .slice none 0 0], []⟩ 8 (by kernel_rfl) (by kernel_rfl) (by kernel_rfl) (by kernel_rfl)) ?_
 intro W base args ds gs before hval0 hW hcnd _
 have hval : ∀ (j : Nat) t v, Tryz.f3.params[j]? = some t → args[j]? = some v → Value.okWide Tryz.prog W .any base t v := hval0
 have hW' := hW
 obtain ⟨p, q, hA0, hV, rfl, hfz, hnd⟩ := hW
 have hA : DataW.TrodAll enc Tryz.prog W 0 (fun _ => true) true Tryz.f3.params.toList args.toList ds p := hA0
 rw [Tryz.params3] at hA hval
 obtain ⟨v0, v1, d0, d1, p0, p1, rfl, rfl, rfl, h0, h1⟩ := trodAll_two hA
 obtain ⟨rfl, rfl⟩ := trodVars_none hV
 obtain ⟨a, rfl, rfl, rfl, wa⟩ := open_int Tryz.underlying3 (hval 0 3 v0 rfl rfl) h0
 obtain ⟨A', n', c', rfl⟩ := okWide_slice Tryz.underlying22 (hval 1 22 v1 rfl rfl)
 have h1k := h1
 obtain ⟨fuel, hf⟩ := h1
 obtain ⟨A, c, l, hcs, hl, hfr⟩ := open_claims hf
 obtain ⟨rfl, rfl, rfl⟩ : A' = A ∧ n' = l.length ∧ c' = c := by simpa [Value.cells] using hcs
 have hlt : ∀ x ∈ p1, x.block < W.heap.size := fun x hx => hW'.lt x (by simpa using hx)
 refine (fair_law (a := a) hl hfr ).mono fun e W' ⟨he, hB⟩ => ?_
 subst he
 exact ⟨_, rfl, _, _, _, [], _, [], hW', trodAll_mk1 (shut_bool Tryz.underlying4 true), trodAll_mk2 (shut_int Tryz.underlying3 wa) (Below.trod Tryz.laidOut (by kernel_rfl) (of_decide_eq_true (by kernel_rfl)) h1k hB hlt), rfl, hB.frame _, fun h => by cases h⟩
theorem fair_holds : Rows.SurvivorFairSaid :=
 OpenClaim.holds_of_wide 3 Tryz.f3 rfl rfl rfl rfl rfl rfl rfl ⟨rfl, rfl, rfl, rfl, rfl⟩ rfl rfl rfl rfl rfl (by kernel_rfl) Tryz.func3 (by kernel_rfl)
  (of_decide_eq_true (by kernel_rfl)) (by unfold Func.isWrapper; first | (rw [if_pos (by decide +kernel)]; kernel_rfl) | (rw [if_neg (by decide +kernel)]; exact ⟨rfl, rfl⟩))
  (fun os started H enc _ => fair_lifted os started H enc)
#print axioms fair_holds
end Go.Proofs.YtjbcalbbhomkjaaGreat
