import Derived.Test.YtjbcalbbhomkjaaGreatRows
import Derived.ProofKit
import Derived.Deep.Slices
import Derived.Deep.Strs
import Derived.Test.YtjbcalbbhomkjaaGreatKZ4
namespace Go.Proofs.YtjbcalbbhomkjaaGreat
open Go.RowKit
attribute [local irreducible] RI.frame RI.act RI.Ob RI.Tail RI.out V.Wp V.Fn Oper.wp
set_option maxRecDepth 20000 in
set_option maxHeartbeats 2000000 in
theorem sum_no {A : Option Addr} {c : Nat} {l : List Rc} {w : World} (hl : Ls w 6 A l.length c (l.map Rc.cells)) (hfr : ∀ x ∈ l, Rc.ok w x) {a : Int} (hno : usableB a l = false) :
    Calls Tryz.prog 5 #[.int .i64 a, .slice A l.length c] w fun e w' => e = .returned (.bool true) ∧ Below w.heap.size w w' := by
 refine V.enter Tryz.func5 rfl rfl (by simp) fun f0 hf => ?_
 have s0 : f0 0 = .int .i64 a := hf 0 (by simp)
 have s1 : f0 1 = .slice A l.length c := hf 1 (by simp)
 clear hf
 have hb : Below w.heap.size w w := Below.refl _ _
 have w_hl := hl
 have w_hfr := hfr
 refine V.seq ?_
 refine V.reg 1 [V.E (.bool false)] [] (V.i hl (V.i hfr hb)) ?_ ?_
 ·refine V.ac ?_ V.an
  ·exact V.s1 rfl fun f W h => V.x_assign rfl
 intro f1 W2 hE3
 clear hl hfr hb
 obtain ⟨⟨hl, hfr, hb⟩, hsz⟩ := hE3.g
 obtain ⟨s0, s1⟩ := V.e2 hE3 s0 s1
 have s4 := V.es hE3 0 4 rfl
 clear hE3 hsz
 refine V.t_done rfl (V.nx (V.seq (V.seq ?_)))
 refine V.reg 2 [V.E (.bool true), V.E (.bool false)] [] (V.i hl (V.i hfr hb)) ?_ ?_
 ·refine V.ac ?_ (V.ac ?_ V.an)
  ·refine V.s2 rfl fun f W h => ?_
   refine V.call en11 (V.args0 ) (Calls.mono (awake_s) ?_)
   rintro e W' ⟨rfl, hb⟩
   exact ⟨_, rfl, rfl, hb⟩
  ·exact V.s1 rfl fun f W h => V.x_un (V.ed h 0 16 rfl)
 intro f4 W5 hE6
 clear hl hfr hb
 obtain ⟨⟨hl, hfr, hb⟩, hsz⟩ := hE6.g
 obtain ⟨s0, s1, s4⟩ := V.e3 hE6 s0 s1 s4
 have s17 := V.es hE6 1 17 rfl
 clear hE6 hsz
 refine V.t_done rfl (V.nx ?_)
 refine V.cond_f (V.ev_tmp rfl s17) ?_
 refine V.skip ?_
 refine V.nx (V.seq (V.seq ?_))
 refine V.reg 4 [V.E (.int .i64 a), V.E (.slice A l.length c), V.E (.bool false), V.E (.bool true)] [] (V.i hl (V.i hfr hb)) ?_ ?_
 ·refine V.ac ?_ (V.ac ?_ (V.ac ?_ (V.ac ?_ V.an)))
  ·exact V.s1 rfl fun f W h => V.x_move (V.eo h 0 s0)
  ·exact V.s1 rfl fun f W h => V.x_move (V.eo h 1 s1)
  ·refine V.s2 rfl fun f W h => ?_
   refine V.call en12 (V.args2 (V.ed h 0 18 rfl) (V.ed h 1 19 rfl)) (Calls.mono (usable_s h.g.1.1 h.g.1.2.1) ?_)
   rintro e W' ⟨e7, hb⟩
   rw [hno] at e7
   subst e7
   exact ⟨_, rfl, rfl, hb⟩
  ·exact V.s1 rfl fun f W h => V.x_un (V.ed h 2 20 rfl)
 intro f8 W9 hE10
 clear hl hfr hb
 obtain ⟨⟨hl, hfr, hb⟩, hsz⟩ := hE10.g
 obtain ⟨s0, s1, s4⟩ := V.e3 hE10 s0 s1 s4
 have s21 := V.es hE10 3 21 rfl
 clear hE10 hsz
 refine V.t_done rfl (V.nx ?_)
 refine V.cond_t (V.ev_tmp rfl s21) ?_
 refine V.seq ?_
 refine V.reg 1 [V.E (.bool true)] [] (V.i hl (V.i hfr hb)) ?_ ?_
 ·refine V.ac ?_ V.an
  ·exact V.s1 rfl fun f W h => V.x_assign rfl
 intro f11 W12 hE13
 clear hl hfr hb
 obtain ⟨⟨hl, hfr, hb⟩, hsz⟩ := hE13.g
 obtain ⟨s0, s1⟩ := V.e2 hE13 s0 s1
 have s4 := V.es hE13 0 4 rfl
 clear hE13 hsz
 refine V.t_done rfl (V.nx (V.ret (V.tr ?_)))
 refine V.leave_any (.inl rfl) (V.res_tmp rfl rfl s4) ?_
 exact ⟨rfl, hb⟩
theorem none_gets {q : Rat} {p : Int} (h : q = 0 → p = 0) : (((((Lb.limbs (Q.m q)).length : Int)) == (0 : Int)) && (p != (0 : Int))) = false := by
  have e := Q.num_len q
  rw [e]
  by_cases h0 : q = 0
  · rw [h h0]; simp
  · rw [decide_eq_false h0]; rfl
set_option maxRecDepth 20000 in
set_option maxHeartbeats 2000000 in
theorem sum_yes {A : Option Addr} {c : Nat} {l : List Cl} {w : World} (hl : Ls w 6 A l.length c (l.map Cl.cells)) (hfr : ∀ x ∈ l, Fr.ok w x.w) (hV : ValidC l) (h10 : l.length ≤ 10) {a : Int} (h0 : 0 ≤ a) (h1 : a ≤ 1099511627776) :
    Calls Tryz.prog 5 #[.int .i64 a, .slice A l.length c] w fun e w' => e = .returned (.bool true) ∧ Below w.heap.size w w' := by
 have h20 : l.length < 20 := by omega
 have hgood := hV.g
 refine V.enter Tryz.func5 rfl rfl (by simp) fun f0 hf => ?_
 have s0 : f0 0 = .int .i64 a := hf 0 (by simp)
 have s1 : f0 1 = .slice A l.length c := hf 1 (by simp)
 clear hf
 have hb : Below w.heap.size w w := Below.refl _ _
 have w_hl := hl
 have w_hfr := hfr
 refine V.seq ?_
 refine V.reg 1 [V.E (.bool false)] [] (V.i hl (V.i hfr hb)) ?_ ?_
 ·refine V.ac ?_ V.an
  ·exact V.s1 rfl fun f W h => V.x_assign rfl
 intro f14 W15 hE16
 clear hl hfr hb
 obtain ⟨⟨hl, hfr, hb⟩, hsz⟩ := hE16.g
 obtain ⟨s0, s1⟩ := V.e2 hE16 s0 s1
 have s4 := V.es hE16 0 4 rfl
 clear hE16 hsz
 refine V.t_done rfl (V.nx (V.seq (V.seq ?_)))
 refine V.reg 2 [V.E (.bool true), V.E (.bool false)] [] (V.i hl (V.i hfr hb)) ?_ ?_
 ·refine V.ac ?_ (V.ac ?_ V.an)
  ·refine V.s2 rfl fun f W h => ?_
   refine V.call en11 (V.args0 ) (Calls.mono (awake_s) ?_)
   rintro e W' ⟨rfl, hb⟩
   exact ⟨_, rfl, rfl, hb⟩
  ·exact V.s1 rfl fun f W h => V.x_un (V.ed h 0 16 rfl)
 intro f17 W18 hE19
 clear hl hfr hb
 obtain ⟨⟨hl, hfr, hb⟩, hsz⟩ := hE19.g
 obtain ⟨s0, s1, s4⟩ := V.e3 hE19 s0 s1 s4
 have s17 := V.es hE19 1 17 rfl
 clear hE19 hsz
 refine V.t_done rfl (V.nx ?_)
 refine V.cond_f (V.ev_tmp rfl s17) ?_
 refine V.skip ?_
 refine V.nx (V.seq (V.seq ?_))
 refine V.reg 4 [V.E (.int .i64 a), V.E (.slice A l.length c), V.E (.bool true), V.E (.bool false)] [] (V.i hl (V.i hfr hb)) ?_ ?_
 ·refine V.ac ?_ (V.ac ?_ (V.ac ?_ (V.ac ?_ V.an)))
  ·exact V.s1 rfl fun f W h => V.x_move (V.eo h 0 s0)
  ·exact V.s1 rfl fun f W h => V.x_move (V.eo h 1 s1)
  ·refine V.s2 rfl fun f W h => ?_
   refine V.call en12 (V.args2 (V.ed h 0 18 rfl) (V.ed h 1 19 rfl)) (Calls.mono (usable_t h.g.1.1 h.g.1.2.1 hV h10 h0 h1) ?_)
   rintro e W' ⟨rfl, hb⟩
   exact ⟨_, rfl, rfl, hb⟩
  ·exact V.s1 rfl fun f W h => V.x_un (V.ed h 2 20 rfl)
 intro f20 W21 hE22
 clear hl hfr hb
 obtain ⟨⟨hl, hfr, hb⟩, hsz⟩ := hE22.g
 obtain ⟨s0, s1, s4⟩ := V.e3 hE22 s0 s1 s4
 have s21 := V.es hE22 3 21 rfl
 clear hE22 hsz
 refine V.t_done rfl (V.nx ?_)
 refine V.cond_f (V.ev_tmp rfl s21) ?_
 refine V.skip ?_
 refine V.nx (V.seq ?_)
 refine V.reg 8 [V.E (.int .i64 a), V.E (.slice A l.length c), (fun v W => ∃ g23 : Nat, ∃ t24 : Rat, ∃ ys25 : List Nat, ∃ m26 : Nat, ∃ rs27 : List Int, v = .tuple #[.slice (some ⟨g23, 0, none⟩) l.length l.length, .int .i64 0] ∧ Own W g23 3 1 (rs27.map IntC) ([]) ∧ (PartsOf a l t24 ys25 m26 rs27) ∧ (w.heap.size ≤ g23) ∧ (W21.heap.size ≤ g23)), (fun v W => ∃ g31 : Nat, ∃ t32 : Rat, ∃ ys33 : List Nat, ∃ m34 : Nat, ∃ rs35 : List Int, v = .tuple #[.slice (some ⟨g31, 0, none⟩) l.length l.length, .int .i64 0] ∧ Own W g31 3 1 (rs35.map IntC) ([]) ∧ (PartsOf a l t32 ys33 m34 rs35) ∧ (w.heap.size ≤ g31) ∧ (W21.heap.size ≤ g31)), (fun v W => ∃ g36 : Nat, ∃ t37 : Rat, ∃ ys38 : List Nat, ∃ m39 : Nat, ∃ rs40 : List Int, v = .slice (some ⟨g36, 0, none⟩) l.length l.length ∧ Own W g36 3 1 (rs40.map IntC) ([]) ∧ (PartsOf a l t37 ys38 m39 rs40) ∧ (w.heap.size ≤ g36) ∧ (W21.heap.size ≤ g36)), V.E (.int .i64 0), (fun v W => ∃ g41 : Nat, ∃ t42 : Rat, ∃ ys43 : List Nat, ∃ m44 : Nat, ∃ rs45 : List Int, v = .slice (some ⟨g41, 0, none⟩) l.length l.length ∧ Own W g41 3 1 (rs45.map IntC) ([]) ∧ (PartsOf a l t42 ys43 m44 rs45) ∧ (w.heap.size ≤ g41) ∧ (W21.heap.size ≤ g41)), V.E (.int .i64 0)] [] (V.i hl (V.i hfr hb)) ?_ ?_
 ·refine V.ac ?_ (V.ac ?_ (V.ac ?_ (V.ac ?_ (V.ac ?_ (V.ac ?_ (V.ac ?_ (V.ac ?_ V.an)))))))
  ·exact V.s1 rfl fun f W h => V.x_move (V.eo h 0 s0)
  ·exact V.s1 rfl fun f W h => V.x_move (V.eo h 1 s1)
  ·refine V.s2 rfl fun f W h => ?_
   refine V.call en13 (V.args2 (V.ed h 0 23 rfl) (V.ed h 1 24 rfl)) (Calls.mono (Parts_n rfl h.g.1.1 h.g.1.2.1 hV h10 h0 h1) ?_)
   rintro e W' ⟨g23, t24, ys25, m26, rs27, rfl, p28, p29, p30, hb⟩
   exact ⟨_, rfl, ⟨g23, t24, ys25, m26, rs27, rfl, p29, p28, Nat.le_trans h.g.1.2.2.size p30, Nat.le_trans h.g.2 p30⟩, hb⟩
  ·refine V.s2 rfl fun f W h => ?_
   obtain ⟨g23, t24, ys25, m26, rs27, a25, k2_0, p2_0, p2_1, p2_2⟩ := V.dp h 2 25 (by kernel_rfl) rfl
   exact V.v2 (.tuple #[.slice (some ⟨g23, 0, none⟩) l.length l.length, .int .i64 0]) (V.x_move (V.ev_tmp rfl a25)) ⟨g23, t24, ys25, m26, rs27, rfl, k2_0, p2_0, p2_1, p2_2⟩
  ·refine V.s2 rfl fun f W h => ?_
   obtain ⟨g31, t32, ys33, m34, rs35, a22, k3_0, p3_0, p3_1, p3_2⟩ := V.dp h 3 22 (by kernel_rfl) rfl
   exact V.v2 (.slice (some ⟨g31, 0, none⟩) l.length l.length) (V.x_extract (V.ev_tmp rfl a22)) ⟨g31, t32, ys33, m34, rs35, rfl, k3_0, p3_0, p3_1, p3_2⟩
  ·refine V.s1 rfl fun f W h => ?_
   obtain ⟨g31, t32, ys33, m34, rs35, a22, k3_0, p3_0, p3_1, p3_2⟩ := V.dp h 3 22 (by kernel_rfl) rfl
   exact V.x_extract (V.ev_tmp rfl a22)
  ·refine V.s2 rfl fun f W h => ?_
   obtain ⟨g36, t37, ys38, m39, rs40, a26, k4_0, p4_0, p4_1, p4_2⟩ := V.dp h 4 26 (by kernel_rfl) rfl
   exact V.v2 (.slice (some ⟨g36, 0, none⟩) l.length l.length) (V.x_assign (V.ev_tmp rfl a26)) ⟨g36, t37, ys38, m39, rs40, rfl, k4_0, p4_0, p4_1, p4_2⟩
  ·exact V.s1 rfl fun f W h => V.x_assign (V.ed h 5 27 rfl)
 intro f46 W47 hE48
 clear hl hfr hb
 obtain ⟨⟨hl, hfr, hb⟩, hsz⟩ := hE48.g
 obtain ⟨s0, s1, s4⟩ := V.e3 hE48 s0 s1 s4
 obtain ⟨g41, t42, ys43, m44, rs45, s5, r49, n50, n51, n52⟩ := V.eq hE48 6 5 rfl
 have s6 := V.es hE48 7 6 rfl
 clear hE48 hsz
 refine V.t_done rfl (V.nx (V.seq ?_))
 refine V.reg 8 [V.E (.int .i64 a), V.E (.slice A l.length c), (fun v W => ∃ g54 : Nat, ∃ xs55 : List Fr, ∃ t56 : Rat, v = .tuple #[.slice (some ⟨g54, 0, none⟩) l.length l.length, .int .i64 0] ∧ Own W g54 39 4 (xs55.map Fr.cells) ([]) ∧ (∀ x ∈ xs55, Fr.ok W x) ∧ (LevOf a l t56) ∧ (ExP l t56 xs55) ∧ (w.heap.size ≤ g54) ∧ (W47.heap.size ≤ g54)), (fun v W => ∃ g62 : Nat, ∃ xs63 : List Fr, ∃ t64 : Rat, v = .tuple #[.slice (some ⟨g62, 0, none⟩) l.length l.length, .int .i64 0] ∧ Own W g62 39 4 (xs63.map Fr.cells) ([]) ∧ (∀ x ∈ xs63, Fr.ok W x) ∧ (LevOf a l t64) ∧ (ExP l t64 xs63) ∧ (w.heap.size ≤ g62) ∧ (W47.heap.size ≤ g62)), (fun v W => ∃ g65 : Nat, ∃ xs66 : List Fr, ∃ t67 : Rat, v = .slice (some ⟨g65, 0, none⟩) l.length l.length ∧ Own W g65 39 4 (xs66.map Fr.cells) ([]) ∧ (∀ x ∈ xs66, Fr.ok W x) ∧ (LevOf a l t67) ∧ (ExP l t67 xs66) ∧ (w.heap.size ≤ g65) ∧ (W47.heap.size ≤ g65)), V.E (.int .i64 0), (fun v W => ∃ g68 : Nat, ∃ xs69 : List Fr, ∃ t70 : Rat, v = .slice (some ⟨g68, 0, none⟩) l.length l.length ∧ Own W g68 39 4 (xs69.map Fr.cells) ([]) ∧ (∀ x ∈ xs69, Fr.ok W x) ∧ (LevOf a l t70) ∧ (ExP l t70 xs69) ∧ (w.heap.size ≤ g68) ∧ (W47.heap.size ≤ g68)), V.E (.int .i64 0)] [] (V.i hl (V.i hfr (V.i hb r49))) ?_ ?_
 ·refine V.ac ?_ (V.ac ?_ (V.ac ?_ (V.ac ?_ (V.ac ?_ (V.ac ?_ (V.ac ?_ (V.ac ?_ V.an)))))))
  ·exact V.s1 rfl fun f W h => V.x_move (V.eo h 0 s0)
  ·exact V.s1 rfl fun f W h => V.x_move (V.eo h 1 s1)
  ·refine V.s2 rfl fun f W h => ?_
   refine V.call en14 (V.args2 (V.ed h 0 29 rfl) (V.ed h 1 30 rfl)) (Calls.mono (Exact_s h.g.1.1 h.g.1.2.1 hV h20 h0 h1) ?_)
   rintro e W' ⟨g54, xs55, t56, rfl, p57, p58, p59, p60, p61, hb⟩
   exact ⟨_, rfl, ⟨g54, xs55, t56, rfl, p59, p60, p57, p58, Nat.le_trans h.g.1.2.2.1.size p61, Nat.le_trans h.g.2 p61⟩, hb⟩
  ·refine V.s2 rfl fun f W h => ?_
   obtain ⟨g54, xs55, t56, a31, k2_0, k2_1, p2_0, p2_1, p2_2, p2_3⟩ := V.dp h 2 31 (by kernel_rfl) rfl
   exact V.v2 (.tuple #[.slice (some ⟨g54, 0, none⟩) l.length l.length, .int .i64 0]) (V.x_move (V.ev_tmp rfl a31)) ⟨g54, xs55, t56, rfl, k2_0, k2_1, p2_0, p2_1, p2_2, p2_3⟩
  ·refine V.s2 rfl fun f W h => ?_
   obtain ⟨g62, xs63, t64, a28, k3_0, k3_1, p3_0, p3_1, p3_2, p3_3⟩ := V.dp h 3 28 (by kernel_rfl) rfl
   exact V.v2 (.slice (some ⟨g62, 0, none⟩) l.length l.length) (V.x_extract (V.ev_tmp rfl a28)) ⟨g62, xs63, t64, rfl, k3_0, k3_1, p3_0, p3_1, p3_2, p3_3⟩
  ·refine V.s1 rfl fun f W h => ?_
   obtain ⟨g62, xs63, t64, a28, k3_0, k3_1, p3_0, p3_1, p3_2, p3_3⟩ := V.dp h 3 28 (by kernel_rfl) rfl
   exact V.x_extract (V.ev_tmp rfl a28)
  ·refine V.s2 rfl fun f W h => ?_
   obtain ⟨g65, xs66, t67, a32, k4_0, k4_1, p4_0, p4_1, p4_2, p4_3⟩ := V.dp h 4 32 (by kernel_rfl) rfl
   exact V.v2 (.slice (some ⟨g65, 0, none⟩) l.length l.length) (V.x_assign (V.ev_tmp rfl a32)) ⟨g65, xs66, t67, rfl, k4_0, k4_1, p4_0, p4_1, p4_2, p4_3⟩
  ·exact V.s1 rfl fun f W h => V.x_assign (V.ed h 5 33 rfl)
 have o_g41 := r49.blk.lt
 intro f71 W72 hE73
 clear hl hfr hb r49
 obtain ⟨⟨hl, hfr, hb, r49⟩, hsz⟩ := hE73.g
 obtain ⟨s0, s1, s4, s5, s6⟩ := V.e5 hE73 s0 s1 s4 s5 s6
 obtain ⟨g68, xs69, t70, s7, r74, r75, n76, n77, n78, n79⟩ := V.eq hE73 6 7 rfl
 have s8 := V.es hE73 7 8 rfl
 clear hE73 hsz
 clear o_g41
 refine V.t_done rfl (V.nx (V.seq (V.seq ?_)))
 refine V.reg 20 [V.E (.int .i64 0), V.E (.bool false), V.E (.bool false), (V.Gd (!false) (V.E (.int .i64 0))), (V.Gd (!false) (V.E (.bool false))), V.E (.bool false), V.E (.bool false), (V.Gd (!false) (V.E (.slice (some ⟨g41, 0, none⟩) l.length l.length))), (V.Gd (!false) (V.E (.int .i64 (l.length : Int)))), (V.Gd (!false) (V.E (.slice A l.length c))), (V.Gd (!false) (V.E (.int .i64 (l.length : Int)))), (V.Gd (!false) (V.E (.bool false))), V.E (.bool false), V.E (.bool false), (V.Gd (!false) (V.E (.slice (some ⟨g68, 0, none⟩) l.length l.length))), (V.Gd (!false) (V.E (.int .i64 (l.length : Int)))), (V.Gd (!false) (V.E (.slice A l.length c))), (V.Gd (!false) (V.E (.int .i64 (l.length : Int)))), (V.Gd (!false) (V.E (.bool false))), V.E (.bool false)] [] (V.i hl (V.i hfr (V.i hb (V.i r49 (V.i r74 r75))))) ?_ ?_
 ·refine V.ac ?_ (V.ac ?_ (V.ac ?_ (V.ac ?_ (V.ac ?_ (V.ac ?_ (V.ac ?_ (V.ac ?_ (V.ac ?_ (V.ac ?_ (V.ac ?_ (V.ac ?_ (V.ac ?_ (V.ac ?_ (V.ac ?_ (V.ac ?_ (V.ac ?_ (V.ac ?_ (V.ac ?_ (V.ac ?_ V.an)))))))))))))))))))
  ·exact V.s1 rfl fun f W h => V.x_move (V.eo h 6 s6)
  ·exact V.s1 rfl fun f W h => V.x_bin (V.ed h 0 34 rfl) rfl
  ·exact V.s1 rfl fun f W h => V.x_move (V.ed h 1 35 rfl)
  ·exact V.gf 2 36 rfl rfl fun hp f W h => V.v1 (V.x_move (V.eo h 8 s8))
  ·exact V.gf 2 36 rfl rfl fun hp f W h => V.v1 (V.x_bin (V.eg h 3 37 rfl hp) rfl)
  ·refine V.s1 rfl fun f W h => ?_
   have d38 := V.dp h 4 38 (by kernel_rfl) rfl
   exact V.x_pick_f (V.ed h 2 36 rfl) (V.ev_tmp rfl (V.gd_on d38 rfl))
  ·exact V.s1 rfl fun f W h => V.x_move (V.ed h 5 39 rfl)
  ·exact V.gf 6 40 rfl rfl fun hp f W h => V.v1 (V.x_move (V.eo h 5 s5))
  ·exact V.gf 6 40 rfl rfl fun hp f W h => V.v1 (V.x_len (V.eg h 7 41 rfl hp))
  ·exact V.gf 6 40 rfl rfl fun hp f W h => V.v1 (V.x_move (V.eo h 1 s1))
  ·exact V.gf 6 40 rfl rfl fun hp f W h => V.v1 (V.x_len (V.eg h 9 43 rfl hp))
  ·exact V.gf 6 40 rfl rfl fun hp f W h => V.v1 (V.x_bin (V.eg h 8 42 rfl hp) (V.eg h 10 44 rfl hp) ((by kernel_rfl : _ = Result.ok (.bool ((l.length : Int) != (l.length : Int))) _).trans (by rw [bne_self_eq_false])))
  ·refine V.s1 rfl fun f W h => ?_
   have d45 := V.dp h 11 45 (by kernel_rfl) rfl
   exact V.x_pick_f (V.ed h 6 40 rfl) (V.ev_tmp rfl (V.gd_on d45 rfl))
  ·exact V.s1 rfl fun f W h => V.x_move (V.ed h 12 46 rfl)
  ·exact V.gf 13 47 rfl rfl fun hp f W h => V.v1 (V.x_move (V.eo h 7 s7))
  ·exact V.gf 13 47 rfl rfl fun hp f W h => V.v1 (V.x_len (V.eg h 14 48 rfl hp))
  ·exact V.gf 13 47 rfl rfl fun hp f W h => V.v1 (V.x_move (V.eo h 1 s1))
  ·exact V.gf 13 47 rfl rfl fun hp f W h => V.v1 (V.x_len (V.eg h 16 50 rfl hp))
  ·exact V.gf 13 47 rfl rfl fun hp f W h => V.v1 (V.x_bin (V.eg h 15 49 rfl hp) (V.eg h 17 51 rfl hp) ((by kernel_rfl : _ = Result.ok (.bool ((l.length : Int) != (l.length : Int))) _).trans (by rw [bne_self_eq_false])))
  ·refine V.s1 rfl fun f W h => ?_
   have d52 := V.dp h 18 52 (by kernel_rfl) rfl
   exact V.x_pick_f (V.ed h 13 47 rfl) (V.ev_tmp rfl (V.gd_on d52 rfl))
 intro f82 W83 hE84
 clear hl hfr hb r49 r74 r75
 obtain ⟨⟨hl, hfr, hb, r49, r74, r75⟩, hsz⟩ := hE84.g
 obtain ⟨s0, s1, s4, s5, s7⟩ := V.e5 hE84 s0 s1 s4 s5 s7
 have s53 := V.es hE84 19 53 rfl
 clear hE84 hsz
 refine V.t_done rfl (V.nx ?_)
 refine V.cond_f (V.ev_tmp rfl s53) ?_
 refine V.skip ?_
 refine V.nx (V.seq ?_)
 refine V.reg 4 [V.E (.int .i64 a), V.E (.slice A l.length c), V.E (.int .i64 (tot a l)), V.E (.int .i64 (tot a l))] [] (V.i hl (V.i hfr (V.i hb (V.i r49 (V.i r74 r75))))) ?_ ?_
 ·refine V.ac ?_ (V.ac ?_ (V.ac ?_ (V.ac ?_ V.an)))
  ·exact V.s1 rfl fun f W h => V.x_move (V.eo h 0 s0)
  ·exact V.s1 rfl fun f W h => V.x_move (V.eo h 1 s1)
  ·refine V.s2 rfl fun f W h => ?_
   refine V.call en22 (V.args2 (V.ed h 0 54 rfl) (V.ed h 1 55 rfl)) (Calls.mono (total_s h.g.1.1 h.g.1.2.1 hV h20 h0 h1) ?_)
   rintro e W' ⟨rfl, hb⟩
   exact ⟨_, rfl, rfl, hb⟩
  ·exact V.s1 rfl fun f W h => V.x_assign (V.ed h 2 56 rfl)
 intro f85 W86 hE87
 clear hl hfr hb r49 r74 r75
 obtain ⟨⟨hl, hfr, hb, r49, r74, r75⟩, hsz⟩ := hE87.g
 obtain ⟨s0, s1, s4, s5, s7⟩ := V.e5 hE87 s0 s1 s4 s5 s7
 have s9 := V.es hE87 3 9 rfl
 clear hE87 hsz
 refine V.t_done rfl (V.nx (V.seq ?_))
 refine V.reg 2 [(fun v W => ∃ z88 : Fr, v = z88.v ∧ Fr.ok W z88 ∧ (z88.q = (1 : Rat))), V.Nb W86 39 #[.bool false, .slice none 0 0, .bool false, .slice none 0 0]] [1] (V.i hl (V.i hfr (V.i hb (V.i r49 (V.i r74 r75))))) ?_ ?_
 ·refine V.ac ?_ (V.ac ?_ V.an)
  ·refine V.s2 rfl fun f W h => ?_
   refine V.call en20 (V.args1 rfl) (Calls.mono (FromInt_s (x := 1) (by decide) (by decide)) ?_)
   rintro e W' ⟨z88, rfl, k89, e90, hb⟩
   exact ⟨_, rfl, ⟨z88, rfl, k89, e90⟩, hb⟩
  ·exact V.sn rfl fun f W h => V.x_alloc
 have o_g41 := r49.blk.lt
 have o_g68 := r74.blk.lt
 have o_bel := hb.size
 have ob_hl := hl.blt
 intro f92 W93 hE94
 clear hl hfr hb r49 r74 r75
 obtain ⟨⟨hl, hfr, hb, r49, r74, r75⟩, hsz⟩ := hE94.g
 obtain ⟨s0, s1, s4, s5, s7, s9⟩ := V.e6 hE94 s0 s1 s4 s5 s7 s9
 obtain ⟨z88, s57, r95, n96⟩ := V.eq hE94 0 57 rfl
 obtain ⟨g91, s10, b_g91, l_g91⟩ := V.eq hE94 1 10 rfl
 have m_g91 : w.heap.size ≤ g91 := Nat.le_trans o_bel l_g91
 have q_g41_g91 : g41 ≠ g91 := by omega
 have q_g68_g91 : g68 ≠ g91 := by omega
 have q_hl_g91 : 0 < l.length → (adr A).block ≠ g91 := fun h => Nat.ne_of_lt (Nat.lt_of_lt_of_le (ob_hl h) l_g91)
 clear hE94 hsz
 clear o_bel o_g41 o_g68 ob_hl
 refine V.t_st (k := 2) rfl (V.x_store (V.ev_tmp rfl s10) (V.ev_tmp rfl s57) (V.st_row b_g91)) b_g91 fun W97 hs b' => ?_
 replace hl := hs.ls hl q_hl_g91
 replace hfr := (fun x_0 hx_0 => hs.fr (hfr x_0 hx_0))
 replace hb := hs.bel hb m_g91
 replace r49 := hs.own r49 q_g41_g91
 replace r74 := hs.own r74 q_g68_g91
 replace r75 := (fun x_0 hx_0 => hs.fr (r75 x_0 hx_0))
 replace r95 := hs.fr r95
 replace b_g91 := b'
 clear hs b'
 refine V.t_done rfl (V.nx (V.seq (V.seq ?_)))
 refine V.reg 1 [V.E (.int .i64 0)] [] (V.i hl (V.i hfr (V.i hb (V.i r49 (V.i r74 (V.i r75 (V.i r95 b_g91))))))) ?_ ?_
 ·refine V.ac ?_ V.an
  ·exact V.s1 rfl fun f W h => V.x_assign rfl
 intro f98 W99 hE100
 clear hl hfr hb r49 r74 r75 r95 b_g91
 obtain ⟨⟨hl, hfr, hb, r49, r74, r75, r95, b_g91⟩, hsz⟩ := hE100.g
 obtain ⟨s0, s1, s4, s5, s7, s9, s10⟩ := V.e7 hE100 s0 s1 s4 s5 s7 s9 s10
 have s11 := V.es hE100 0 11 rfl
 clear hE100 hsz
 refine V.t_done rfl (V.nx (V.block ?_))
 have htt : t70 = t42 := (n76.is hgood h0).uniq n50.lev hgood
 have one_sz : Q.Sz 256 (1 : Rat) := by have := sz_nat (k := 1) (by decide); exact Q.Sz.mono this (by decide)
 refine V.loop (fun k f W => ∃ i : Nat, ∃ lf : Int, (k = l.length - i ∧ (i ≤ l.length) ∧ (lf = tot a l - isum (rs45.take i)) ∧ (-(1099511627776 * (i : Int)) ≤ lf) ∧ (lf ≤ 1099511627776)) ∧ (f 0 = .int .i64 a ∧ f 1 = .slice A l.length c ∧ f 5 = .slice (some ⟨g41, 0, none⟩) l.length l.length ∧ f 7 = .slice (some ⟨g68, 0, none⟩) l.length l.length ∧ f 9 = .int .i64 lf ∧ f 10 = Vp g91 0 ∧ f 11 = .int .i64 (i : Int)) ∧ (Below w.heap.size w W ∧ Ls W 6 A l.length c (l.map Cl.cells) ∧ (∀ x ∈ l, Fr.ok W x.w) ∧ Own W g41 3 1 (rs45.map IntC) ([]) ∧ Own W g68 39 4 (xs69.map Fr.cells) ([]) ∧ (∀ x ∈ xs69, Fr.ok W x) ∧ Blk W g91 39 z88.cs ∧ Fr.ok W z88)) (l.length - 0) ⟨0, (tot a l), ⟨rfl, by omega, by simp [isum], by have := tot_nonneg hgood h0; omega, by have := tot_le (a := a) (l := l); omega⟩, ⟨s0, s1, s5, s7, s9, s10, (s11.trans (by simp))⟩, ⟨hb, hl, hfr, r49, r74, r75, b_g91, r95⟩⟩ ?_
 clear hl hfr hb r49 r74 r75 r95 b_g91 s0 s1 s4 s5 s7 s9 s10 s11
 rintro k103 f101 W102 ⟨i, lf, ⟨hk112, hil, hlf, hl0, hl1⟩, ⟨s0, s1, s5, s7, s9, s10, s11⟩, ⟨r104, r105, r106, r107, r108, r109, r110, r111⟩⟩
 refine V.seq (V.seq ?_)
 refine V.reg 4 [V.E (.int .i64 (i : Int)), V.E (.slice A l.length c), V.E (.int .i64 (l.length : Int)), V.E (.bool (decide ((i : Int) < (l.length : Int))))] [] (V.i r104 (V.i r105 (V.i r106 (V.i r107 (V.i r108 (V.i r109 (V.i r110 r111))))))) ?_ ?_
 ·refine V.ac ?_ (V.ac ?_ (V.ac ?_ (V.ac ?_ V.an)))
  ·exact V.s1 rfl fun f W h => V.x_move (V.eo h 11 s11)
  ·exact V.s1 rfl fun f W h => V.x_move (V.eo h 1 s1)
  ·exact V.s1 rfl fun f W h => V.x_len (V.ed h 1 59 rfl)
  ·exact V.s1 rfl fun f W h => V.x_bin (V.ed h 0 58 rfl) (V.ed h 2 60 rfl)
 intro f113 W114 hE115
 clear r104 r105 r106 r107 r108 r109 r110 r111
 obtain ⟨⟨r104, r105, r106, r107, r108, r109, r110, r111⟩, hsz⟩ := hE115.g
 obtain ⟨s0, s1, s5, s7, s9, s10, s11⟩ := V.e7 hE115 s0 s1 s5 s7 s9 s10 s11
 have s61 := V.es hE115 3 61 rfl
 clear hE115 hsz
 refine V.t_done rfl (V.nx ?_)
 cases hc116 : (decide ((i : Int) < (l.length : Int)))
 ·have s61_ : f113 61 = .bool false := s61.trans (by rw [hc116])
  refine V.cond_f (V.ev_tmp rfl s61_) ?_
  have hi : i = l.length := by have := of_decide_eq_false hc116; omega
  rw [hi, ← n50.len, List.take_length, n50.sum] at hlf
  refine V.exit (V.tx (V.tx (V.bx (V.nx (V.seq ?_)))))
  refine V.reg 3 [V.E (.int .i64 lf), V.E (.bool (lf == (0 : Int))), V.E (.bool (lf == (0 : Int)))] [] (V.i r104 (V.i r105 (V.i r106 (V.i r107 (V.i r108 (V.i r109 (V.i r110 r111))))))) ?_ ?_
  ·refine V.ac ?_ (V.ac ?_ (V.ac ?_ V.an))
   ·exact V.s1 rfl fun f W h => V.x_move (V.eo h 9 s9)
   ·exact V.s1 rfl fun f W h => V.x_bin (V.ed h 0 143 rfl) rfl
   ·exact V.s1 rfl fun f W h => V.x_assign (V.ed h 1 144 rfl)
  intro f117 W118 hE119
  clear r104 r105 r106 r107 r108 r109 r110 r111
  obtain ⟨⟨r104, r105, r106, r107, r108, r109, r110, r111⟩, hsz⟩ := hE119.g
  obtain ⟨s0, s1⟩ := V.e2 hE119 s0 s1
  have s4 := V.es hE119 2 4 rfl
  clear hE119 hsz
  refine V.t_done rfl (V.nx (V.ret ?_))
  refine V.leave_any (.inl rfl) (V.res_tmp rfl rfl s4) ?_
  exact ⟨by rw [show lf = 0 by omega]; rfl, r104⟩
 ·have s61_ : f113 61 = .bool true := s61.trans (by rw [hc116])
  refine V.cond_t (V.ev_tmp rfl s61_) ?_
  have hi : i < l.length := by have := of_decide_eq_true hc116; omega
  obtain ⟨x, mx, ex, ex_⟩ := V.at_map Cl.cells (l := l) (i := i) hi
  have gx := hgood x mx
  obtain ⟨y, my, ey, ey_⟩ := V.at_map Fr.cells (l := xs69) (i := i) (by rw [n77.len]; exact hi)
  have fy := r109 y my
  have hyq := n77.q i x y ex ey
  obtain ⟨p, ep, hp0, hpc, hup, hdn, hw0⟩ := n50.one ex gx (hyq.trans (by rw [htt]))
  have gb1 := gx.b1
  have hp1 : p ≤ 1099511627776 := by omega
  have hys := ExP.sz n76 n77 h1 hgood h20 ex ey
  have hd := (Q.Sz.cap hp0 hp1).sub hys
  have hdn : -(((p : Int) : Rat) - y.q) < 1 := by grind
  have hst := isum_take1 ep
  have ep_ : (rs45.map IntC)[i]? = some (IntC p) := by rw [List.getElem?_map, ep]; rfl
  refine V.skip ?_
  refine V.nx (V.seq (V.block (V.seq ?_)))
  refine V.reg 7 [V.E (.int .i64 lf), V.E (.slice (some ⟨g41, 0, none⟩) l.length l.length), V.E (.int .i64 (i : Int)), V.E (.pointer (some ((adr (some ⟨g41, 0, none⟩)).add (i * 1 + 0)))), V.E (.int .i64 p), V.E (.int .i64 (lf - p)), V.E (.int .i64 (lf - p))] [] (V.i r104 (V.i r105 (V.i r106 (V.i r107 (V.i r108 (V.i r109 (V.i r110 (V.i r111 fy)))))))) ?_ ?_
  ·refine V.ac ?_ (V.ac ?_ (V.ac ?_ (V.ac ?_ (V.ac ?_ (V.ac ?_ (V.ac ?_ V.an))))))
   ·exact V.s1 rfl fun f W h => V.x_move (V.eo h 9 s9)
   ·exact V.s1 rfl fun f W h => V.x_move (V.eo h 5 s5)
   ·exact V.s1 rfl fun f W h => V.x_move (V.eo h 11 s11)
   ·exact V.s1 rfl fun f W h => V.x_index (i := i) (Own.lsn (n := l.length) (c := l.length) h.g.1.2.2.2.1 ⟨by rw [List.length_map, n50.len], Nat.le_refl _, by omega⟩) ep_ (V.ed h 1 65 rfl) (V.ed h 2 66 rfl)
   ·exact V.s1 rfl fun f W h => V.x_load (V.ed h 3 67 rfl) (V.ld_ls1 (i := i) (o := 0) (Own.lsn (n := l.length) (c := l.length) h.g.1.2.2.2.1 ⟨by rw [List.length_map, n50.len], Nat.le_refl _, by omega⟩) ep_ rfl)
   ·refine V.s1 rfl fun f W h => ?_
    have hw120 : IntKind.i64.wrap (lf - p) = lf - p := by exact IntWalk.i64_in _ (by omega)
    exact V.x_bin (V.ed h 0 64 rfl) (V.ed h 4 68 rfl) ((by kernel_rfl : _ = Result.ok (.int .i64 (IntKind.i64.wrap (lf - p))) _).trans (by rw [hw120]))
   ·exact V.s1 rfl fun f W h => V.x_assign (V.ed h 5 69 rfl)
  intro f121 W122 hE123
  clear r104 r105 r106 r107 r108 r109 r110 r111 fy
  obtain ⟨⟨r104, r105, r106, r107, r108, r109, r110, r111, fy⟩, hsz⟩ := hE123.g
  obtain ⟨s0, s1, s5, s7, s10, s11⟩ := V.e6 hE123 s0 s1 s5 s7 s10 s11
  have s9 := V.es hE123 6 9 rfl
  clear hE123 hsz
  refine V.t_done rfl (V.nx (V.seq ?_))
  refine V.regF 14 [V.E (.slice (some ⟨g41, 0, none⟩) l.length l.length), V.E (.int .i64 (i : Int)), V.E (.pointer (some ((adr (some ⟨g41, 0, none⟩)).add (i * 1 + 0)))), V.E (.int .i64 p), (fun v W => ∃ z124 : Fr, v = z124.v ∧ Fr.ok W z124 ∧ (z124.q = (((p : Int) : Rat) : Rat))), V.E (.slice (some ⟨g68, 0, none⟩) l.length l.length), V.E (.int .i64 (i : Int)), V.E (.pointer (some ((adr (some ⟨g68, 0, none⟩)).add (i * 4 + 0)))), V.E (y.v), (fun v W => ∃ z127 : Fr, v = .tuple #[z127.v, .int .i64 0] ∧ Fr.ok W z127 ∧ (z127.q = ((((p : Int) : Rat) : Rat) - y.q))), (fun v W => ∃ z130 : Fr, v = .tuple #[z130.v, .int .i64 0] ∧ Fr.ok W z130 ∧ (z130.q = ((((p : Int) : Rat) : Rat) - y.q))), (fun v W => ∃ z131 : Fr, v = z131.v ∧ Fr.ok W z131 ∧ (z131.q = ((((p : Int) : Rat) : Rat) - y.q))), V.E (.int .i64 0), V.Nb W122 39 #[.bool false, .slice none 0 0, .bool false, .slice none 0 0]] [13] (V.i r104 (V.i r105 (V.i r106 (V.i r107 (V.i r108 (V.i r109 (V.i r110 (V.i r111 fy)))))))) [12] (fun _ => True) (fun _ _ => trivial) ?_ ?_ ?_
  ·refine V.ac ?_ (V.ac ?_ (V.ac ?_ (V.ac ?_ (V.ac ?_ (V.ac ?_ (V.ac ?_ (V.ac ?_ (V.ac ?_ (V.ac ?_ (V.ac ?_ (V.ac ?_ (V.ac ?_ (V.ac ?_ V.an)))))))))))))
   ·exact V.s1 rfl fun f W h => V.x_move (V.eo h 5 s5)
   ·exact V.s1 rfl fun f W h => V.x_move (V.eo h 11 s11)
   ·exact V.s1 rfl fun f W h => V.x_index (i := i) (Own.lsn (n := l.length) (c := l.length) h.g.1.2.2.2.1 ⟨by rw [List.length_map, n50.len], Nat.le_refl _, by omega⟩) ep_ (V.ed h 0 71 rfl) (V.ed h 1 72 rfl)
   ·exact V.s1 rfl fun f W h => V.x_load (V.ed h 2 73 rfl) (V.ld_ls1 (i := i) (o := 0) (Own.lsn (n := l.length) (c := l.length) h.g.1.2.2.2.1 ⟨by rw [List.length_map, n50.len], Nat.le_refl _, by omega⟩) ep_ rfl)
   ·refine V.s2 rfl fun f W h => ?_
    refine V.call en20 (V.args1 (V.ed h 3 74 rfl)) (Calls.mono (FromInt_s (x := p) (by omega) (by omega)) ?_)
    rintro e W' ⟨z124, rfl, k125, e126, hb⟩
    exact ⟨_, rfl, ⟨z124, rfl, k125, e126⟩, hb⟩
   ·exact V.s1 rfl fun f W h => V.x_move (V.eo h 7 s7)
   ·exact V.s1 rfl fun f W h => V.x_move (V.eo h 11 s11)
   ·exact V.s1 rfl fun f W h => V.x_index (i := i) (Own.lsn (n := l.length) (c := l.length) h.g.1.2.2.2.2.1 ⟨by rw [List.length_map, n77.len], Nat.le_refl _, by omega⟩) ey_ (V.ed h 5 76 rfl) (V.ed h 6 77 rfl)
   ·exact V.s1 rfl fun f W h => V.x_load (V.ed h 7 78 rfl) (V.ld_lsE (i := i) (o := 0) (cs := [.bool (Q.neg y.q), Vs y.A (Q.m y.q) y.c, .bool false, Vs y.A' y.q.den y.c']) (Own.lsn (n := l.length) (c := l.length) h.g.1.2.2.2.2.1 ⟨by rw [List.length_map, n77.len], Nat.le_refl _, by omega⟩) ey_ Tryz.underlying39)
   ·refine V.s2 rfl fun f W h => ?_
    obtain ⟨z124, a75, k4_0, p4_0⟩ := V.dp h 4 75 (by kernel_rfl) rfl
    refine V.call en18 (V.args2 (V.ev_tmp rfl a75) (V.ed h 8 79 rfl)) (Calls.mono (Sub_s k4_0 h.g.1.2.2.2.2.2.2.2.2 (by rw [p4_0]; exact ((Q.Sz.cap hp0 hp1).mono (by decide))) (hys.mono (by decide)) (by rw [p4_0]; exact (hd.mono (by decide)))) ?_)
    rintro e W' ⟨z127, rfl, k128, e129, hb⟩
    exact ⟨_, rfl, ⟨z127, rfl, k128, e129.trans (by rw [p4_0])⟩, hb⟩
   ·refine V.s2 rfl fun f W h => ?_
    obtain ⟨z127, a80, k9_0, p9_0⟩ := V.dp h 9 80 (by kernel_rfl) rfl
    exact V.v2 (.tuple #[z127.v, .int .i64 0]) (V.x_move (V.ev_tmp rfl a80)) ⟨z127, rfl, k9_0, p9_0⟩
   ·refine V.s2 rfl fun f W h => ?_
    obtain ⟨z130, a70, k10_0, p10_0⟩ := V.dp h 10 70 (by kernel_rfl) rfl
    exact V.v2 (z130.v) (V.x_extract (V.ev_tmp rfl a70)) ⟨z130, rfl, k10_0, p10_0⟩
   ·refine V.s1 rfl fun f W h => ?_
    obtain ⟨z130, a70, k10_0, p10_0⟩ := V.dp h 10 70 (by kernel_rfl) rfl
    exact V.x_extract (V.ev_tmp rfl a70)
   ·exact V.sn rfl fun f W h => V.x_alloc
  ·refine V.fl1 (V.fl_step rfl rfl fun f W h => ?_)
   ·obtain ⟨z130, a70, k10_0, p10_0⟩ := V.dp h 10 70 (by kernel_rfl) rfl
    exact ⟨.int .i64 0, fun _ _ => V.x_extract (V.ev_tmp rfl a70), rfl⟩
  have o_g41 := r107.blk.lt
  have o_g68 := r108.blk.lt
  have o_g91 := r110.lt
  have o_bel := r104.size
  have ob_r105 := r105.blt
  intro f133 W134 hE135
  clear r104 r105 r106 r107 r108 r109 r110 r111 fy
  obtain ⟨⟨r104, r105, r106, r107, r108, r109, r110, r111, fy⟩, hsz⟩ := hE135.g
  obtain ⟨s0, s1, s5, s7, s10, s11, s9⟩ := V.e7 hE135 s0 s1 s5 s7 s10 s11 s9
  obtain ⟨z131, s81, r136, n137⟩ := V.eq hE135 11 81 rfl
  have s82 := V.es hE135 12 82 rfl
  obtain ⟨g132, s12, b_g132, l_g132⟩ := V.eq hE135 13 12 rfl
  have m_g132 : w.heap.size ≤ g132 := Nat.le_trans o_bel l_g132
  have q_g41_g132 : g41 ≠ g132 := by omega
  have q_g68_g132 : g68 ≠ g132 := by omega
  have q_g91_g132 : g91 ≠ g132 := by omega
  have q_r105_g132 : 0 < l.length → (adr A).block ≠ g132 := fun h => Nat.ne_of_lt (Nat.lt_of_lt_of_le (ob_r105 h) l_g132)
  clear hE135 hsz
  clear o_bel o_g41 o_g68 o_g91 ob_r105
  refine V.t_st (k := 14) rfl (V.x_store (V.ev_tmp rfl s12) (V.ev_tmp rfl s81) (V.st_row b_g132)) b_g132 fun W138 hs b' => ?_
  replace r104 := hs.bel r104 m_g132
  replace r105 := hs.ls r105 q_r105_g132
  replace r106 := (fun x_0 hx_0 => hs.fr (r106 x_0 hx_0))
  replace r107 := hs.own r107 q_g41_g132
  replace r108 := hs.own r108 q_g68_g132
  replace r109 := (fun x_0 hx_0 => hs.fr (r109 x_0 hx_0))
  replace r110 := hs.blk r110 q_g91_g132
  replace r111 := hs.fr r111
  replace fy := hs.fr fy
  replace r136 := hs.fr r136
  replace b_g132 := b'
  clear hs b'
  refine V.t_val (k := 15) (v := .int .i64 0) (t := 13) rfl rfl rfl (by kernel_rfl) trivial (V.x_assign (V.ev_tmp rfl s82)) ?_
  intro f139 e140 u141
  replace s0 : f139 0 = .int .i64 a := (u141 0 (by decide)).trans s0
  replace s1 : f139 1 = .slice A l.length c := (u141 1 (by decide)).trans s1
  replace s5 : f139 5 = .slice (some ⟨g41, 0, none⟩) l.length l.length := (u141 5 (by decide)).trans s5
  replace s7 : f139 7 = .slice (some ⟨g68, 0, none⟩) l.length l.length := (u141 7 (by decide)).trans s7
  replace s10 : f139 10 = Vp g91 0 := (u141 10 (by decide)).trans s10
  replace s11 : f139 11 = .int .i64 (i : Int) := (u141 11 (by decide)).trans s11
  replace s9 : f139 9 = .int .i64 (lf - p) := (u141 9 (by decide)).trans s9
  replace s81 : f139 81 = z131.v := (u141 81 (by decide)).trans s81
  replace s82 : f139 82 = .int .i64 0 := (u141 82 (by decide)).trans s82
  replace s12 : f139 12 = Vp g132 0 := (u141 12 (by decide)).trans s12
  have s13 := e140
  clear u141
  refine V.t_done rfl (V.nx (V.seq ?_))
  refine V.reg 6 [V.E (z131.v), (fun v W => ∃ z142 : Fr, v = .tuple #[z142.v, .int .i64 0] ∧ Fr.ok W z142 ∧ (z142.q = (-((((p : Int) : Rat) : Rat) - y.q)))), (fun v W => ∃ z145 : Fr, v = .tuple #[z145.v, .int .i64 0] ∧ Fr.ok W z145 ∧ (z145.q = (-((((p : Int) : Rat) : Rat) - y.q)))), (fun v W => ∃ z146 : Fr, v = z146.v ∧ Fr.ok W z146 ∧ (z146.q = (-((((p : Int) : Rat) : Rat) - y.q)))), V.E (.int .i64 0), V.Nb W138 39 #[.bool false, .slice none 0 0, .bool false, .slice none 0 0]] [5] (V.i r104 (V.i r105 (V.i r106 (V.i r107 (V.i r108 (V.i r109 (V.i r110 (V.i r111 (V.i fy (V.i r136 b_g132)))))))))) ?_ ?_
  ·refine V.ac ?_ (V.ac ?_ (V.ac ?_ (V.ac ?_ (V.ac ?_ (V.ac ?_ V.an)))))
   ·exact V.s1 rfl fun f W h => V.x_load (V.eo h 12 s12) (V.ld_row h.g.1.2.2.2.2.2.2.2.2.2.2 Tryz.underlying39)
   ·refine V.s2 rfl fun f W h => ?_
    refine V.call en23 (V.args1 (V.ed h 0 84 rfl)) (Calls.mono (Neg_s h.g.1.2.2.2.2.2.2.2.2.2.1 (by rw [n137]; exact (hd.mono (by decide)))) ?_)
    rintro e W' ⟨z142, rfl, k143, e144, hb⟩
    exact ⟨_, rfl, ⟨z142, rfl, k143, e144.trans (by rw [n137])⟩, hb⟩
   ·refine V.s2 rfl fun f W h => ?_
    obtain ⟨z142, a85, k1_0, p1_0⟩ := V.dp h 1 85 (by kernel_rfl) rfl
    exact V.v2 (.tuple #[z142.v, .int .i64 0]) (V.x_move (V.ev_tmp rfl a85)) ⟨z142, rfl, k1_0, p1_0⟩
   ·refine V.s2 rfl fun f W h => ?_
    obtain ⟨z145, a83, k2_0, p2_0⟩ := V.dp h 2 83 (by kernel_rfl) rfl
    exact V.v2 (z145.v) (V.x_extract (V.ev_tmp rfl a83)) ⟨z145, rfl, k2_0, p2_0⟩
   ·refine V.s1 rfl fun f W h => ?_
    obtain ⟨z145, a83, k2_0, p2_0⟩ := V.dp h 2 83 (by kernel_rfl) rfl
    exact V.x_extract (V.ev_tmp rfl a83)
   ·exact V.sn rfl fun f W h => V.x_alloc
  have o_g41 := r107.blk.lt
  have o_g68 := r108.blk.lt
  have o_g91 := r110.lt
  have o_g132 := b_g132.lt
  have o_bel := r104.size
  have ob_r105 := r105.blt
  intro f148 W149 hE150
  clear r104 r105 r106 r107 r108 r109 r110 r111 fy r136 b_g132
  obtain ⟨⟨r104, r105, r106, r107, r108, r109, r110, r111, fy, r136, b_g132⟩, hsz⟩ := hE150.g
  obtain ⟨s0, s1, s5, s7, s10, s11, s9, s12, s13⟩ := V.e9 hE150 s0 s1 s5 s7 s10 s11 s9 s12 s13
  obtain ⟨z146, s86, r151, n152⟩ := V.eq hE150 3 86 rfl
  have s87 := V.es hE150 4 87 rfl
  obtain ⟨g147, s14, b_g147, l_g147⟩ := V.eq hE150 5 14 rfl
  have m_g147 : w.heap.size ≤ g147 := Nat.le_trans o_bel l_g147
  have q_g41_g147 : g41 ≠ g147 := by omega
  have q_g68_g147 : g68 ≠ g147 := by omega
  have q_g91_g147 : g91 ≠ g147 := by omega
  have q_g132_g147 : g132 ≠ g147 := by omega
  have q_r105_g147 : 0 < l.length → (adr A).block ≠ g147 := fun h => Nat.ne_of_lt (Nat.lt_of_lt_of_le (ob_r105 h) l_g147)
  clear hE150 hsz
  clear o_bel o_g41 o_g68 o_g91 o_g132 ob_r105
  refine V.t_st (k := 6) rfl (V.x_store (V.ev_tmp rfl s14) (V.ev_tmp rfl s86) (V.st_row b_g147)) b_g147 fun W153 hs b' => ?_
  replace r104 := hs.bel r104 m_g147
  replace r105 := hs.ls r105 q_r105_g147
  replace r106 := (fun x_0 hx_0 => hs.fr (r106 x_0 hx_0))
  replace r107 := hs.own r107 q_g41_g147
  replace r108 := hs.own r108 q_g68_g147
  replace r109 := (fun x_0 hx_0 => hs.fr (r109 x_0 hx_0))
  replace r110 := hs.blk r110 q_g91_g147
  replace r111 := hs.fr r111
  replace fy := hs.fr fy
  replace r136 := hs.fr r136
  replace b_g132 := hs.blk b_g132 q_g132_g147
  replace r151 := hs.fr r151
  replace b_g147 := b'
  clear hs b'
  refine V.t_val (k := 7) (v := .int .i64 0) (t := 15) rfl rfl rfl (by kernel_rfl) trivial (V.x_assign (V.ev_tmp rfl s87)) ?_
  intro f154 e155 u156
  replace s0 : f154 0 = .int .i64 a := (u156 0 (by decide)).trans s0
  replace s1 : f154 1 = .slice A l.length c := (u156 1 (by decide)).trans s1
  replace s5 : f154 5 = .slice (some ⟨g41, 0, none⟩) l.length l.length := (u156 5 (by decide)).trans s5
  replace s7 : f154 7 = .slice (some ⟨g68, 0, none⟩) l.length l.length := (u156 7 (by decide)).trans s7
  replace s10 : f154 10 = Vp g91 0 := (u156 10 (by decide)).trans s10
  replace s11 : f154 11 = .int .i64 (i : Int) := (u156 11 (by decide)).trans s11
  replace s9 : f154 9 = .int .i64 (lf - p) := (u156 9 (by decide)).trans s9
  replace s12 : f154 12 = Vp g132 0 := (u156 12 (by decide)).trans s12
  replace s13 : f154 13 = .int .i64 0 := (u156 13 (by decide)).trans s13
  replace s86 : f154 86 = z146.v := (u156 86 (by decide)).trans s86
  replace s87 : f154 87 = .int .i64 0 := (u156 87 (by decide)).trans s87
  replace s14 : f154 14 = Vp g147 0 := (u156 14 (by decide)).trans s14
  have s15 := e155
  clear u156
  refine V.t_done rfl (V.nx (V.seq ?_))
  refine V.reg 55 [V.E (.int .i64 0), V.E (.bool false), V.E (.bool false), (V.Gd (!false) (V.E (.int .i64 0))), (V.Gd (!false) (V.E (.bool false))), V.E (.bool false), V.E (.bool false), (V.Gd (!false) (V.E (.slice (some ⟨g41, 0, none⟩) l.length l.length))), (V.Gd (!false) (V.E (.int .i64 (i : Int)))), (V.Gd (!false) (V.E (.pointer (some ((adr (some ⟨g41, 0, none⟩)).add (i * 1 + 0)))))), (V.Gd (!false) (V.E (.int .i64 p))), (V.Gd (!false) (V.E (.bool false))), V.E (.bool false), V.E (.bool false), (V.Gd (!false) (V.E (.slice (some ⟨g41, 0, none⟩) l.length l.length))), (V.Gd (!false) (V.E (.int .i64 (i : Int)))), (V.Gd (!false) (V.E (.pointer (some ((adr (some ⟨g41, 0, none⟩)).add (i * 1 + 0)))))), (V.Gd (!false) (V.E (.int .i64 p))), (V.Gd (!false) (V.E (.slice A l.length c))), (V.Gd (!false) (V.E (.int .i64 (i : Int)))), (V.Gd (!false) (V.E (.pointer (some ((adr A).add (i * 6 + 0)))))), (V.Gd (!false) (V.E (.pointer (some ((adr A).add (i * 6 + 5)))))), (V.Gd (!false) (V.E (.int .i64 x.cap))), (V.Gd (!false) (V.E (.bool false))), V.E (.bool false), V.E (.bool false), (V.Gd (!false) (V.E (z131.v))), (V.Gd (!false) (V.E (z88.v))), (V.Gd (!false) (V.E (.int .i64 (Q.cmp ((((p : Int) : Rat) : Rat) - y.q) (1 : Rat))))), (V.Gd (!false) (V.E (.bool false))), V.E (.bool false), V.E (.bool false), (V.Gd (!false) (V.E (z146.v))), (V.Gd (!false) (V.E (z88.v))), (V.Gd (!false) (V.E (.int .i64 (Q.cmp (-((((p : Int) : Rat) : Rat) - y.q)) (1 : Rat))))), (V.Gd (!false) (V.E (.bool false))), V.E (.bool false), V.E (.bool false), (V.Gd (!false) (V.E (.slice A l.length c))), (V.Gd (!false) (V.E (.int .i64 (i : Int)))), (V.Gd (!false) (V.E (.pointer (some ((adr A).add (i * 6 + 0)))))), (V.Gd (!false) (V.E (.pointer (some ((adr A).add (i * 6 + 1)))))), (V.Gd (!false) (V.E (.pointer (some ((adr A).add (i * 6 + 1)))))), (V.Gd (!false) (V.E (.pointer (some ((adr A).add (i * 6 + 2)))))), (V.Gd (!false) (V.E (Vs x.w.A (Q.m x.w.q) x.w.c))), (V.Gd (!false) (V.E (.int .i64 ((Lb.limbs (Q.m x.w.q)).length : Int)))), (V.Gd (!false) (V.E (.bool (((Lb.limbs (Q.m x.w.q)).length : Int) == (0 : Int))))), (V.Gd (!false) (V.E (.bool (((Lb.limbs (Q.m x.w.q)).length : Int) == (0 : Int))))), (V.Gd ((!false) && (((Lb.limbs (Q.m x.w.q)).length : Int) == (0 : Int))) (V.E (.slice (some ⟨g41, 0, none⟩) l.length l.length))), (V.Gd ((!false) && (((Lb.limbs (Q.m x.w.q)).length : Int) == (0 : Int))) (V.E (.int .i64 (i : Int)))), (V.Gd ((!false) && (((Lb.limbs (Q.m x.w.q)).length : Int) == (0 : Int))) (V.E (.pointer (some ((adr (some ⟨g41, 0, none⟩)).add (i * 1 + 0)))))), (V.Gd ((!false) && (((Lb.limbs (Q.m x.w.q)).length : Int) == (0 : Int))) (V.E (.int .i64 p))), (V.Gd ((!false) && (((Lb.limbs (Q.m x.w.q)).length : Int) == (0 : Int))) (V.E (.bool (p != (0 : Int))))), (V.Gd (!false) (V.E (.bool ((((Lb.limbs (Q.m x.w.q)).length : Int) == (0 : Int)) && (p != (0 : Int)))))), V.E (.bool ((((Lb.limbs (Q.m x.w.q)).length : Int) == (0 : Int)) && (p != (0 : Int))))] [] (V.i r104 (V.i r105 (V.i r106 (V.i r107 (V.i r108 (V.i r109 (V.i r110 (V.i r111 (V.i fy (V.i r136 (V.i b_g132 (V.i r151 b_g147)))))))))))) ?_ ?_
  ·refine V.ac ?_ (V.ac ?_ (V.ac ?_ (V.ac ?_ (V.ac ?_ (V.ac ?_ (V.ac ?_ (V.ac ?_ (V.ac ?_ (V.ac ?_ (V.ac ?_ (V.ac ?_ (V.ac ?_ (V.ac ?_ (V.ac ?_ (V.ac ?_ (V.ac ?_ (V.ac ?_ (V.ac ?_ (V.ac ?_ (V.ac ?_ (V.ac ?_ (V.ac ?_ (V.ac ?_ (V.ac ?_ (V.ac ?_ (V.ac ?_ (V.ac ?_ (V.ac ?_ (V.ac ?_ (V.ac ?_ (V.ac ?_ (V.ac ?_ (V.ac ?_ (V.ac ?_ (V.ac ?_ (V.ac ?_ (V.ac ?_ (V.ac ?_ (V.ac ?_ (V.ac ?_ (V.ac ?_ (V.ac ?_ (V.ac ?_ (V.ac ?_ (V.ac ?_ (V.ac ?_ (V.ac ?_ (V.ac ?_ (V.ac ?_ (V.ac ?_ (V.ac ?_ (V.ac ?_ (V.ac ?_ (V.ac ?_ V.an))))))))))))))))))))))))))))))))))))))))))))))))))))))
   ·exact V.s1 rfl fun f W h => V.x_move (V.eo h 13 s13)
   ·exact V.s1 rfl fun f W h => V.x_bin (V.ed h 0 88 rfl) rfl
   ·exact V.s1 rfl fun f W h => V.x_move (V.ed h 1 89 rfl)
   ·exact V.gf 2 90 rfl rfl fun hp f W h => V.v1 (V.x_move (V.eo h 15 s15))
   ·exact V.gf 2 90 rfl rfl fun hp f W h => V.v1 (V.x_bin (V.eg h 3 91 rfl hp) rfl)
   ·refine V.s1 rfl fun f W h => ?_
    have d92 := V.dp h 4 92 (by kernel_rfl) rfl
    exact V.x_pick_f (V.ed h 2 90 rfl) (V.ev_tmp rfl (V.gd_on d92 rfl))
   ·exact V.s1 rfl fun f W h => V.x_move (V.ed h 5 93 rfl)
   ·exact V.gf 6 94 rfl rfl fun hp f W h => V.v1 (V.x_move (V.eo h 5 s5))
   ·exact V.gf 6 94 rfl rfl fun hp f W h => V.v1 (V.x_move (V.eo h 11 s11))
   ·exact V.gf 6 94 rfl rfl fun hp f W h => V.v1 (V.x_index (i := i) (Own.lsn (n := l.length) (c := l.length) h.g.1.2.2.2.1 ⟨by rw [List.length_map, n50.len], Nat.le_refl _, by omega⟩) ep_ (V.eg h 7 95 rfl hp) (V.eg h 8 96 rfl hp))
   ·exact V.gf 6 94 rfl rfl fun hp f W h => V.v1 (V.x_load (V.eg h 9 97 rfl hp) (V.ld_ls1 (i := i) (o := 0) (Own.lsn (n := l.length) (c := l.length) h.g.1.2.2.2.1 ⟨by rw [List.length_map, n50.len], Nat.le_refl _, by omega⟩) ep_ rfl))
   ·exact V.gf 6 94 rfl rfl fun hp f W h => V.v1 (V.x_bin (V.eg h 10 98 rfl hp) rfl ((by kernel_rfl : _ = Result.ok (.bool (decide (p < 0))) _).trans (by rw [show (decide (p < 0)) = false from decide_eq_false (by omega)])))
   ·refine V.s1 rfl fun f W h => ?_
    have d99 := V.dp h 11 99 (by kernel_rfl) rfl
    exact V.x_pick_f (V.ed h 6 94 rfl) (V.ev_tmp rfl (V.gd_on d99 rfl))
   ·exact V.s1 rfl fun f W h => V.x_move (V.ed h 12 100 rfl)
   ·exact V.gf 13 101 rfl rfl fun hp f W h => V.v1 (V.x_move (V.eo h 5 s5))
   ·exact V.gf 13 101 rfl rfl fun hp f W h => V.v1 (V.x_move (V.eo h 11 s11))
   ·exact V.gf 13 101 rfl rfl fun hp f W h => V.v1 (V.x_index (i := i) (Own.lsn (n := l.length) (c := l.length) h.g.1.2.2.2.1 ⟨by rw [List.length_map, n50.len], Nat.le_refl _, by omega⟩) ep_ (V.eg h 14 102 rfl hp) (V.eg h 15 103 rfl hp))
   ·exact V.gf 13 101 rfl rfl fun hp f W h => V.v1 (V.x_load (V.eg h 16 104 rfl hp) (V.ld_ls1 (i := i) (o := 0) (Own.lsn (n := l.length) (c := l.length) h.g.1.2.2.2.1 ⟨by rw [List.length_map, n50.len], Nat.le_refl _, by omega⟩) ep_ rfl))
   ·exact V.gf 13 101 rfl rfl fun hp f W h => V.v1 (V.x_move (V.eo h 1 s1))
   ·exact V.gf 13 101 rfl rfl fun hp f W h => V.v1 (V.x_move (V.eo h 11 s11))
   ·exact V.gf 13 101 rfl rfl fun hp f W h => V.v1 (V.x_index (i := i) h.g.1.2.1 ex_ (V.eg h 18 106 rfl hp) (V.eg h 19 107 rfl hp))
   ·exact V.gf 13 101 rfl rfl fun hp f W h => V.v1 (V.x_fieldP (j := i * 6 + 0) (k := 5) (V.eg h 20 108 rfl hp) (fun _ => by kernel_rfl))
   ·exact V.gf 13 101 rfl rfl fun hp f W h => V.v1 (V.x_load (V.eg h 21 109 rfl hp) (V.ld_ls1 (i := i) (o := 5) h.g.1.2.1 ex_ rfl))
   ·exact V.gf 13 101 rfl rfl fun hp f W h => V.v1 (V.x_bin (V.eg h 17 105 rfl hp) (V.eg h 22 110 rfl hp) ((by kernel_rfl : _ = Result.ok (.bool (decide (x.cap < p))) _).trans (by rw [show (decide (x.cap < p)) = false from decide_eq_false (by omega)])))
   ·refine V.s1 rfl fun f W h => ?_
    have d111 := V.dp h 23 111 (by kernel_rfl) rfl
    exact V.x_pick_f (V.ed h 13 101 rfl) (V.ev_tmp rfl (V.gd_on d111 rfl))
   ·exact V.s1 rfl fun f W h => V.x_move (V.ed h 24 112 rfl)
   ·exact V.gf 25 113 rfl rfl fun hp f W h => V.v1 (V.x_load (V.eo h 12 s12) (V.ld_row h.g.1.2.2.2.2.2.2.2.2.2.2.1 Tryz.underlying39))
   ·exact V.gf 25 113 rfl rfl fun hp f W h => V.v1 (V.x_load (V.eo h 10 s10) (V.ld_row h.g.1.2.2.2.2.2.2.1 Tryz.underlying39))
   ·refine V.gf 25 113 rfl rfl fun hp f W h => ?_
    refine V.call en19 (V.args2 (V.eg h 26 114 rfl hp) (V.eg h 27 115 rfl hp)) (Calls.mono (Cmp_s h.g.1.2.2.2.2.2.2.2.2.2.1 h.g.1.2.2.2.2.2.2.2.1 (by rw [n137]; exact (hd.mono (by decide))) (by rw [n96]; exact (one_sz))) ?_)
    rintro e W' ⟨e157, hb⟩
    rw [n137, n96] at e157
    subst e157
    exact ⟨_, rfl, rfl, hb⟩
   ·exact V.gf 25 113 rfl rfl fun hp f W h => V.v1 (V.x_bin (V.eg h 28 116 rfl hp) rfl ((by kernel_rfl : _ = Result.ok (.bool (decide (0 ≤ (Q.cmp ((((p : Int) : Rat) : Rat) - y.q) (1 : Rat))))) _).trans (by rw [show (decide (0 ≤ (Q.cmp ((((p : Int) : Rat) : Rat) - y.q) (1 : Rat)))) = false from cmp_lt hup])))
   ·refine V.s1 rfl fun f W h => ?_
    have d117 := V.dp h 29 117 (by kernel_rfl) rfl
    exact V.x_pick_f (V.ed h 25 113 rfl) (V.ev_tmp rfl (V.gd_on d117 rfl))
   ·exact V.s1 rfl fun f W h => V.x_move (V.ed h 30 118 rfl)
   ·exact V.gf 31 119 rfl rfl fun hp f W h => V.v1 (V.x_load (V.eo h 14 s14) (V.ld_row h.g.1.2.2.2.2.2.2.2.2.2.2.2.2 Tryz.underlying39))
   ·exact V.gf 31 119 rfl rfl fun hp f W h => V.v1 (V.x_load (V.eo h 10 s10) (V.ld_row h.g.1.2.2.2.2.2.2.1 Tryz.underlying39))
   ·refine V.gf 31 119 rfl rfl fun hp f W h => ?_
    refine V.call en19 (V.args2 (V.eg h 32 120 rfl hp) (V.eg h 33 121 rfl hp)) (Calls.mono (Cmp_s h.g.1.2.2.2.2.2.2.2.2.2.2.2.1 h.g.1.2.2.2.2.2.2.2.1 (by rw [n152]; exact (hd.neg.mono (by decide))) (by rw [n96]; exact (one_sz))) ?_)
    rintro e W' ⟨e158, hb⟩
    rw [n152, n96] at e158
    subst e158
    exact ⟨_, rfl, rfl, hb⟩
   ·exact V.gf 31 119 rfl rfl fun hp f W h => V.v1 (V.x_bin (V.eg h 34 122 rfl hp) rfl ((by kernel_rfl : _ = Result.ok (.bool (decide (0 ≤ (Q.cmp (-((((p : Int) : Rat) : Rat) - y.q)) (1 : Rat))))) _).trans (by rw [show (decide (0 ≤ (Q.cmp (-((((p : Int) : Rat) : Rat) - y.q)) (1 : Rat)))) = false from cmp_lt hdn])))
   ·refine V.s1 rfl fun f W h => ?_
    have d123 := V.dp h 35 123 (by kernel_rfl) rfl
    exact V.x_pick_f (V.ed h 31 119 rfl) (V.ev_tmp rfl (V.gd_on d123 rfl))
   ·exact V.s1 rfl fun f W h => V.x_move (V.ed h 36 124 rfl)
   ·exact V.gf 37 125 rfl rfl fun hp f W h => V.v1 (V.x_move (V.eo h 1 s1))
   ·exact V.gf 37 125 rfl rfl fun hp f W h => V.v1 (V.x_move (V.eo h 11 s11))
   ·exact V.gf 37 125 rfl rfl fun hp f W h => V.v1 (V.x_index (i := i) h.g.1.2.1 ex_ (V.eg h 38 126 rfl hp) (V.eg h 39 127 rfl hp))
   ·exact V.gf 37 125 rfl rfl fun hp f W h => V.v1 (V.x_fieldP (j := i * 6 + 0) (k := 1) (V.eg h 40 128 rfl hp) (fun _ => by kernel_rfl))
   ·exact V.gf 37 125 rfl rfl fun hp f W h => V.v1 (V.x_fieldP (j := i * 6 + 1) (k := 0) (V.eg h 41 129 rfl hp) (fun _ => by kernel_rfl))
   ·exact V.gf 37 125 rfl rfl fun hp f W h => V.v1 (V.x_fieldP (j := i * 6 + 1) (k := 1) (V.eg h 42 130 rfl hp) (fun _ => by kernel_rfl))
   ·exact V.gf 37 125 rfl rfl fun hp f W h => V.v1 (V.x_load (V.eg h 43 131 rfl hp) (V.ld_ls1 (i := i) (o := 2) h.g.1.2.1 ex_ rfl))
   ·exact V.gf 37 125 rfl rfl fun hp f W h => V.v1 (V.x_len (V.eg h 44 132 rfl hp))
   ·exact V.gf 37 125 rfl rfl fun hp f W h => V.v1 (V.x_bin (V.eg h 45 133 rfl hp) rfl)
   ·exact V.gf 37 125 rfl rfl fun hp f W h => V.v1 (V.x_move (V.eg h 46 134 rfl hp))
   ·exact V.g2t 47 135 rfl rfl fun hp f W h => V.v1 (V.x_move (V.eo h 5 s5))
   ·exact V.g2t 47 135 rfl rfl fun hp f W h => V.v1 (V.x_move (V.eo h 11 s11))
   ·exact V.g2t 47 135 rfl rfl fun hp f W h => V.v1 (V.x_index (i := i) (Own.lsn (n := l.length) (c := l.length) h.g.1.2.2.2.1 ⟨by rw [List.length_map, n50.len], Nat.le_refl _, by omega⟩) ep_ (V.eg h 48 136 rfl hp) (V.eg h 49 137 rfl hp))
   ·exact V.g2t 47 135 rfl rfl fun hp f W h => V.v1 (V.x_load (V.eg h 50 138 rfl hp) (V.ld_ls1 (i := i) (o := 0) (Own.lsn (n := l.length) (c := l.length) h.g.1.2.2.2.1 ⟨by rw [List.length_map, n50.len], Nat.le_refl _, by omega⟩) ep_ rfl))
   ·exact V.g2t 47 135 rfl rfl fun hp f W h => V.v1 (V.x_bin (V.eg h 51 139 rfl hp) rfl)
   ·refine V.gf 37 125 rfl rfl fun hp f W h => ?_
    have d140 := V.dp h 52 140 (by kernel_rfl) rfl
    exact V.v2 (.bool ((((Lb.limbs (Q.m x.w.q)).length : Int) == (0 : Int)) && (p != (0 : Int)))) (V.x_and (V.eg h 47 135 rfl hp) (fun e => V.ev_tmp rfl (V.gd_on d140 (V.and_i hp e))) rfl) rfl
   ·refine V.s1 rfl fun f W h => ?_
    have d141 := V.dp h 53 141 (by kernel_rfl) rfl
    exact V.x_pick_f (V.ed h 37 125 rfl) (V.ev_tmp rfl (V.gd_on d141 rfl))
  intro f159 W160 hE161
  clear r104 r105 r106 r107 r108 r109 r110 r111 fy r136 b_g132 r151 b_g147
  obtain ⟨⟨r104, r105, r106, r107, r108, r109, r110, r111, fy, r136, b_g132, r151, b_g147⟩, hsz⟩ := hE161.g
  obtain ⟨s0, s1, s5, s7, s10, s11, s9⟩ := V.e7 hE161 s0 s1 s5 s7 s10 s11 s9
  have s142 := V.es hE161 54 142 rfl
  clear hE161 hsz
  refine V.t_done rfl (V.nx ?_)
  have s142_ : f159 142 = .bool false := s142.trans (congrArg Value.bool (none_gets hw0))
  refine V.cond_f (V.ev_tmp rfl s142_) ?_
  refine V.skip ?_
  refine V.bn (V.nx ?_)
  refine V.reg 3 [V.E (.int .i64 (i : Int)), V.E (.int .i64 ((i : Int) + 1)), V.E (.int .i64 ((i : Int) + 1))] [] (V.i r104 (V.i r105 (V.i r106 (V.i r107 (V.i r108 (V.i r109 (V.i r110 (V.i r111 (V.i fy (V.i r136 (V.i b_g132 (V.i r151 b_g147)))))))))))) ?_ ?_
  ·refine V.ac ?_ (V.ac ?_ (V.ac ?_ V.an))
   ·exact V.s1 rfl fun f W h => V.x_move (V.eo h 11 s11)
   ·refine V.s1 rfl fun f W h => ?_
    have hw162 : IntKind.i64.wrap ((i : Int) + 1) = (i : Int) + 1 := by exact IntWalk.i64_in _ (by omega)
    exact V.x_bin (V.ed h 0 62 rfl) rfl ((by kernel_rfl : _ = Result.ok (.int .i64 (IntKind.i64.wrap ((i : Int) + 1))) _).trans (by rw [hw162]))
   ·exact V.s1 rfl fun f W h => V.x_assign (V.ed h 1 63 rfl)
  intro f163 W164 hE165
  clear r104 r105 r106 r107 r108 r109 r110 r111 fy r136 b_g132 r151 b_g147
  obtain ⟨⟨r104, r105, r106, r107, r108, r109, r110, r111, fy, r136, b_g132, r151, b_g147⟩, hsz⟩ := hE165.g
  obtain ⟨s0, s1, s5, s7, s10, s9⟩ := V.e6 hE165 s0 s1 s5 s7 s10 s9
  have s11 := V.es hE165 2 11 rfl
  clear hE165 hsz
  refine V.t_done rfl ?_
  refine V.handed (l.length - (i + 1)) (by have := hk112; omega) ⟨(i + 1), (lf - p), ⟨rfl, by omega, by omega, by omega, by omega⟩, ⟨s0, s1, s5, s7, s9, s10, (s11.trans (by simp))⟩, ⟨r104, r105, r106, r107, r108, r109, r110, r111⟩⟩
end Go.Proofs.YtjbcalbbhomkjaaGreat
namespace Go.Proofs.YtjbcalbbhomkjaaGreat
open Go.ChangeShapes Go.WideShapes Go.ChangeAt Go.RowKit Go.Deep
theorem Tryz.own : ownKnob Tryz.prog.godebug = none := by kernel_rfl
theorem Tryz.laidOut : laidOutB Tryz.prog = true := by kernel_rfl
section
variable {H : Type} {enc : TypeId × Value → H} {W : World} {fuel : Nat} {x : DataW H × List MemPlace}
theorem app2 {a a' b b' : List Value} (h : a = a') (h' : b = b') : a ++ b = a' ++ b' := by rw [h, h']
theorem split2 {cs : List Value} {p q : Nat} (h : cs.length = p + q) : cs = cs.take p ++ (cs.drop p).take q := by
 rw [List.take_of_length_le (l := cs.drop p) (by simp; omega), List.take_append_drop]
theorem open_limbs {cs : List Value} (h : DataW.trod enc Tryz.prog W 0 (fun _ => true) true fuel 33 cs = some x) : ∃ A c, ∃ xs : List Nat, cs = [.slice A xs.length c] ∧ R16 W A xs.length c xs := by
 rcases open_ints Tryz.underlying33 Tryz.underlying51 (by kernel_rfl) h with ⟨rfl, _⟩ | ⟨a, len, cap, zs, rfl, _, hl, hm, hz, _, hc, hw⟩
 ·exact ⟨none, 0, [], rfl, R16.nil (by decide)⟩
 ·have hz' : zs.length = cap := by simpa using hz
  have hmm : cap ≤ 9223372036854775807 := hm
  have hb : ∀ z ∈ zs, 0 ≤ z ∧ z ≤ 65535 := fun z hz => by
   have := hw z hz
   simp only [Lit.wf, Bool.and_eq_true, decide_eq_true_eq] at this
   have h2 := this.2
   exact ⟨this.1, h2⟩
  have hlen : ((zs.take len).map Int.toNat).length = len := by rw [List.length_map, List.length_take]; omega
  refine ⟨some a, cap, (zs.take len).map Int.toNat, by rw [hlen], ?_⟩
  rw [hlen]
  refine ⟨⟨by rw [List.length_map, hlen, Nat.mul_one], hl, hmm, fun h0 => ⟨a, rfl, fun j u hu => ?_⟩⟩, fun y hy => ?_⟩
  ·rw [List.getElem?_map, List.getElem?_map] at hu
   have hj : j < len := by
    rcases Nat.lt_or_ge j len with h1 | h1
    ·exact h1
    ·rw [List.getElem?_eq_none (by rw [List.length_take]; omega)] at hu; cases hu
   rw [List.getElem?_take_of_lt hj, List.getElem?_eq_getElem (show j < zs.length by omega)] at hu
   have h2 := hc j (by omega)
   rw [h2, ← hu]
   have h3 : zs.getD j 0 = zs[j] := by simp [List.getD, List.getElem?_eq_getElem (show j < zs.length by omega)]
   rw [h3]
   have h4 := (hb _ (List.getElem_mem (show j < zs.length by omega))).1
   show some (Value.int .u16 zs[j]) = some (Value.int .u16 ((zs[j].toNat : Nat) : Int))
   rw [Int.toNat_of_nonneg h4]
  ·obtain ⟨z, hz, rfl⟩ := List.mem_map.1 hy
   have := hb z (List.mem_of_mem_take hz)
   omega
theorem open_whole {cs : List Value} (h : DataW.trod enc Tryz.prog W 0 (fun _ => true) true fuel 35 cs = some x) : ∃ b A c, ∃ xs : List Nat, cs = [.bool b, .slice A xs.length c] ∧ R16 W A xs.length c xs := by
 obtain ⟨y0, y1, n, _, hl, h0, h1⟩ := trod_struct2 Tryz.underlying35 h
 have c0 : Tryz.prog.cellsOf 35 = 2 := by kernel_rfl
 have c1 : Tryz.prog.cellsOf 4 = 1 := by kernel_rfl
 have c2 : Tryz.prog.cellsOf 33 = 1 := by kernel_rfl
 rw [c0] at hl
 rw [c1] at h0
 rw [c2] at h1
 obtain ⟨b, e0, _⟩ := DataW.trod_bool Tryz.underlying4 h0
 obtain ⟨A, c, xs, e1, hr⟩ := open_limbs h1
 refine ⟨b, A, c, xs, ?_, hr⟩
 rw [split2 (p := 1) (q := 1) hl]
 exact app2 e0 e1
theorem open_frac {cs : List Value} (h : DataW.trod enc Tryz.prog W 0 (fun _ => true) true fuel 39 cs = some x) : ∃ b A c b' A' c', ∃ xs xs' : List Nat, cs = [.bool b, .slice A xs.length c, .bool b', .slice A' xs'.length c'] ∧ R16 W A xs.length c xs ∧ R16 W A' xs'.length c' xs' := by
 obtain ⟨y0, y1, n, _, hl, h0, h1⟩ := trod_struct2 Tryz.underlying39 h
 have c0 : Tryz.prog.cellsOf 39 = 4 := by kernel_rfl
 have c1 : Tryz.prog.cellsOf 35 = 2 := by kernel_rfl
 rw [c0] at hl
 rw [c1] at h0 h1
 obtain ⟨b, A, c, xs, e0, hr⟩ := open_whole h0
 obtain ⟨b', A', c', xs', e1, hr'⟩ := open_whole h1
 refine ⟨b, A, c, b', A', c', xs, xs', ?_, hr, hr'⟩
 rw [split2 (p := 2) (q := 2) hl]
 exact app2 e0 e1
theorem open_claim {cs : List Value} (h : DataW.trod enc Tryz.prog W 0 (fun _ => true) true fuel 50 cs = some x) : ∃ r : Rc, cs = r.cells ∧ Rc.ok W r := by
 obtain ⟨y0, y1, y2, n, _, hl, h0, h1, h2⟩ := trod_struct3 Tryz.underlying50 h
 have c0 : Tryz.prog.cellsOf 50 = 6 := by kernel_rfl
 have c1 : Tryz.prog.cellsOf 39 = 4 := by kernel_rfl
 have c2 : Tryz.prog.cellsOf 3 = 1 := by kernel_rfl
 rw [c0] at hl
 rw [c1] at h1
 rw [c2] at h0 h2
 obtain ⟨i, e0, _⟩ := DataW.trod_int Tryz.underlying3 h0
 obtain ⟨b, A, c, b', A', c', xs, xs', e1, hr, hr'⟩ := open_frac h1
 obtain ⟨k, e2, _⟩ := DataW.trod_int Tryz.underlying3 h2
 refine ⟨⟨i, b, A, c, xs, b', A', c', xs', k⟩, ?_, hr, hr'⟩
 have hl1 : (cs.drop 1).length = 4 + 1 := by simp [hl]
 rw [split2 (p := 1) (q := 5) hl, List.take_of_length_le (l := cs.drop 1) (by simp [hl]), split2 (p := 4) (q := 1) hl1, List.drop_drop]
 exact app2 e0 (app2 e1 e2)
theorem open_claims {cs : List Value} (h : DataW.trod enc Tryz.prog W 0 (fun _ => true) true fuel 22 cs = some x) : ∃ A c, ∃ l : List Rc, cs = [.slice A l.length c] ∧ Ls W 6 A l.length c (l.map Rc.cells) ∧ ∀ r ∈ l, Rc.ok W r := by
 rcases open_slice Tryz.underlying22 h with ⟨rfl, _⟩ | ⟨a, len, cap, m, n, D, Pl, rfl, _, hl, hm, hmm, _, hx⟩
 ·exact ⟨none, 0, [], rfl, Ls.nil (by decide), fun r hr => by cases hr⟩
 ·have c0 : Tryz.prog.cellsOf 50 = 6 := by kernel_rfl
  have hcm : m = cap := by simpa using hmm
  have hmx : cap ≤ 9223372036854775807 := hm
  rw [c0] at hx
  obtain ⟨R, hR⟩ := choose_lt (α := Rc) (n := len) (p := fun i r => Rc.ok W r ∧ ∀ j u, r.cells[j]? = some u → W.cell? (a.add (i * 6 + j)) = some u) (fun i hi => by
   obtain ⟨cs', h1, h2⟩ := hx i (by omega)
   obtain ⟨_, hlen, hcell⟩ := World.cells?_some h1
   obtain ⟨r, rfl, hok⟩ := open_claim h2
   refine ⟨r, hok, fun j u hu => ?_⟩
   have hj := (List.getElem?_eq_some_iff.1 hu).1
   have := hcell j (by omega)
   rw [add_of_add] at this
   rw [this]; exact hu)
  have hln : ((List.range len).map R).length = len := by rw [List.length_map, List.length_range]
  refine ⟨some a, cap, (List.range len).map R, by rw [hln], ?_, fun r hr => ?_⟩
  ·rw [hln]
   have hcell : ∀ (i : Nat) (y : List Value) (j : Nat) (u : Value), (((List.range len).map R).map Rc.cells)[i]? = some y → y[j]? = some u → W.cell? (a.add (i * 6 + j)) = some u := by
    intro i y j u hy hu
    rw [List.getElem?_map, List.getElem?_map] at hy
    have hi : i < len := by
     rcases Nat.lt_or_ge i len with h1 | h1
     ·exact h1
     ·rw [List.getElem?_eq_none (by rw [List.length_range]; exact h1)] at hy; cases hy
    rw [List.getElem?_range hi] at hy
    have : y = (R i).cells := by simpa using hy.symm
    subst this
    exact (hR i hi).2 j u hu
   refine ⟨by rw [List.length_map, hln], hl, hmx, fun _ => rfl, fun h0 => ?_, hcell⟩
   have := block_lt_of_cell (hcell 0 _ 0 _ (by rw [List.getElem?_map, List.getElem?_map, List.getElem?_range h0]; rfl) rfl)
   rw [block_of_add] at this
   exact this
  ·obtain ⟨i, hi, rfl⟩ := List.mem_map.1 hr
   exact (hR i (List.mem_range.1 hi)).1
end
end Go.Proofs.YtjbcalbbhomkjaaGreat
