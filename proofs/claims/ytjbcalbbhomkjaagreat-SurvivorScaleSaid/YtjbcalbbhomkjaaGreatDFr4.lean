import Derived.Test.YtjbcalbbhomkjaaGreatDFr3
import Derived.Test.YtjbcalbbhomkjaaGreatDCmp2
set_option maxRecDepth 20000
set_option maxHeartbeats 2000000
namespace Go.Proofs.YtjbcalbbhomkjaaGreat
open Go.RowKit
attribute [local irreducible] RI.frame RI.act RI.Ob RI.Tail RI.out V.Wp V.Fn Oper.wp
theorem en49 : En 49 := enters_of Tryz.func49 (by kernel_rfl) rfl
theorem en51 : En 51 := enters_of Tryz.func51 (by kernel_rfl) rfl
theorem en53 : En 53 := enters_of Tryz.func53 (by kernel_rfl) rfl
theorem en54 : En 54 := enters_of Tryz.func54 (by kernel_rfl) rfl
theorem en55 : En 55 := enters_of Tryz.func55 (by kernel_rfl) rfl
theorem en64 : En 64 := enters_of Tryz.func64 (by kernel_rfl) rfl
theorem en168 : En 168 := enters_of Tryz.func168 (by kernel_rfl) rfl
theorem en169 : En 169 := enters_of Tryz.func169 (by kernel_rfl) rfl
theorem plus_r {A A' B B' : Option Addr} {c c' e e' : Nat} {q r : Rat} {w : World} {k l : Nat} {n1 : Bool} {m1 d1 : Nat} (h1 : R16 w A (Lb.limbs (Q.m q)).length c (Lb.limbs (Q.m q))) (h2 : R16 w A' (Lb.limbs q.den).length c' (Lb.limbs q.den)) (h3 : R16 w B (Lb.limbs m1).length e (Lb.limbs m1)) (h4 : R16 w B' (Lb.limbs d1).length e' (Lb.limbs d1))
    (hq : Q.Sz k q) (hr : Q.Sz l r) (hk : k + l + 1 ≤ 1024) (e1 : Q.neg r = n1) (e2 : Q.m r = m1) (e3 : r.den = d1) :
    Calls Tryz.prog 54 #[.agg #[.bool (Q.neg q), Vs A (Q.m q) c, .bool false, Vs A' q.den c'], .agg #[.bool n1, Vs B m1 e, .bool false, Vs B' d1 e']] w (RetF w (Q.neg (q + r)) (Q.m (q + r)) (q + r).den) := by
  subst e1; subst e2; subst e3
  exact plus_q h1 h2 h3 h4 hq hr hk
theorem Add_q {A A' B B' : Option Addr} {c c' e e' : Nat} {q r : Rat} {w : World} {k l : Nat} (h1 : R16 w A (Lb.limbs (Q.m q)).length c (Lb.limbs (Q.m q))) (h2 : R16 w A' (Lb.limbs q.den).length c' (Lb.limbs q.den)) (h3 : R16 w B (Lb.limbs (Q.m r)).length e (Lb.limbs (Q.m r))) (h4 : R16 w B' (Lb.limbs r.den).length e' (Lb.limbs r.den)) (hq : Q.Sz k q) (hr : Q.Sz l r) (hk : k ≤ 256) (hl : l ≤ 256) (hs : Q.Sz 256 (q + r)) :
    Calls Tryz.prog 60 #[.agg #[.bool (Q.neg q), Vs A (Q.m q) c, .bool false, Vs A' q.den c'], .agg #[.bool (Q.neg r), Vs B (Q.m r) e, .bool false, Vs B' r.den e']] w (TupF w (Q.neg (q + r)) (Q.m (q + r)) (q + r).den) := by
 refine V.enter Tryz.func60 rfl rfl (by simp) fun f0 hf => ?_
 have s0 : f0 0 = .agg #[.bool (Q.neg q), Vs A (Q.m q) c, .bool false, Vs A' q.den c'] := hf 0 (by simp)
 have s1 : f0 1 = .agg #[.bool (Q.neg r), Vs B (Q.m r) e, .bool false, Vs B' r.den e'] := hf 1 (by simp)
 clear hf
 have hb : Below w.heap.size w w := Below.refl _ _
 refine V.seq ?_
 refine V.reg 4 [V.Nb w 39 #[.bool (Q.neg q), Vs A (Q.m q) c, .bool false, Vs A' q.den c'], V.Nb w 39 #[.bool (Q.neg r), Vs B (Q.m r) e, .bool false, Vs B' r.den e'], V.Nb w 39 #[.bool false, .slice none 0 0, .bool false, .slice none 0 0], V.E (.int .i64 0)] [0, 1, 2] (V.i h1 (V.i h2 (V.i h3 (V.i h4 hb)))) ?_ ?_
 ·refine V.ac ?_ (V.ac ?_ (V.ac ?_ (V.ac ?_ V.an)))
  ·exact V.sn rfl fun f W h => V.x_box (V.eo h 0 s0)
  ·exact V.sn rfl fun f W h => V.x_box (V.eo h 1 s1)
  ·exact V.sn rfl fun f W h => V.x_alloc
  ·exact V.z1 rfl fun h => V.xs rfl
 have o_bel := hb.size
 intro f4 W5 hE6
 clear h1 h2 h3 h4 hb
 obtain ⟨⟨h1, h2, h3, h4, hb⟩, hsz⟩ := hE6.g
 obtain ⟨s0, s1⟩ := V.e2 hE6 s0 s1
 obtain ⟨g1, s2, b_g1, l_g1⟩ := V.eq hE6 0 2 rfl
 obtain ⟨g2, s3, b_g2, l_g2⟩ := V.eq hE6 1 3 rfl
 obtain ⟨g3, s4, b_g3, l_g3⟩ := V.eq hE6 2 4 rfl
 have m_g3 : w.heap.size ≤ g3 := Nat.le_trans o_bel l_g3
 have q_g1_g3 : g1 ≠ g3 := V.ep hE6 0 2 2 4 s2 s4
 have q_g2_g3 : g2 ≠ g3 := V.ep hE6 1 2 3 4 s3 s4
 have s5 := V.es hE6 3 5 rfl
 clear hE6 hsz
 clear o_bel
 refine V.t_done rfl (V.nx (V.seq (V.seq ?_)))
 refine V.reg 5 [V.E (.agg #[.bool (Q.neg q), Vs A (Q.m q) c, .bool false, Vs A' q.den c']), V.E (.agg #[.bool (Q.neg r), Vs B (Q.m r) e, .bool false, Vs B' r.den e']), (fun v W => ∃ g7 : Nat, v = .slice (some ⟨g7, 0, none⟩) 2 2 ∧ Blk W g7 39 #[.bool (Q.neg q), Vs A (Q.m q) c, .bool false, Vs A' q.den c', .bool (Q.neg r), Vs B (Q.m r) e, .bool false, Vs B' r.den e'] ∧ (w.heap.size ≤ g7)), V.E (.bool true), V.E (.bool false)] [] (V.i h1 (V.i h2 (V.i h3 (V.i h4 (V.i hb (V.i b_g1 (V.i b_g2 b_g3))))))) ?_ ?_
 ·refine V.ac ?_ (V.ac ?_ (V.ac ?_ (V.ac ?_ (V.ac ?_ V.an))))
  ·exact V.z1 rfl fun h => V.xl (V.eo h 2 s2) (V.lr h.g.1.2.2.2.2.2.1 Tryz.underlying39)
  ·exact V.z1 rfl fun h => V.xl (V.eo h 3 s3) (V.lr h.g.1.2.2.2.2.2.2.1 Tryz.underlying39)
  ·refine V.s2 rfl fun f W h => ?_
   exact V.valv (.slice (some ⟨W.heap.size, 0, none⟩) 2 2) (V.c2 (V.ed h 0 6 rfl) (V.ed h 1 7 rfl)) ⟨⟨W.heap.size, rfl, Blk.new W 39 #[.bool (Q.neg q), Vs A (Q.m q) c, .bool false, Vs A' q.den c', .bool (Q.neg r), Vs B (Q.m r) e, .bool false, Vs B' r.den e'], h.g.1.2.2.2.2.1.size⟩, (Below.refl _ _).alloc (Nat.le_refl _) _⟩
  ·refine V.s2 rfl fun f W h => ?_
   obtain ⟨g7, a8, k2_0, p2_0⟩ := V.dp h 2 8 (by kernel_rfl) rfl
   refine V.call en53 (V.args1 (V.ev_tmp rfl a8)) (Calls.mono (valid2_q h.g.1.1 h.g.1.2.1 h.g.1.2.2.1 h.g.1.2.2.2.1 k2_0 (hq.mono hk) (hr.mono hl)) ?_)
   rintro e W' ⟨rfl, hb⟩
   exact ⟨_, rfl, rfl, hb⟩
  ·exact V.z1 rfl fun h => V.x_un (V.ed h 3 9 rfl)
 intro f8 W9 hE10
 clear h1 h2 h3 h4 hb b_g1 b_g2 b_g3
 obtain ⟨⟨h1, h2, h3, h4, hb, b_g1, b_g2, b_g3⟩, hsz⟩ := hE10.g
 obtain ⟨s0, s1, s2, s3, s4, s5⟩ := V.e6 hE10 s0 s1 s2 s3 s4 s5
 have s10 := V.es hE10 4 10 rfl
 clear hE10 hsz
 refine V.t_done rfl (V.nx ?_)
 refine V.cond_f (V.ev_tmp rfl s10) ?_
 refine V.skip ?_
 refine V.nx (V.seq ?_)
 refine V.reg 8 [V.E (.agg #[.bool (Q.neg q), Vs A (Q.m q) c, .bool false, Vs A' q.den c']), V.E (.agg #[.bool (Q.neg q), Vs A (Q.m q) c, .bool false, Vs A' q.den c']), V.E (.agg #[.bool (Q.neg r), Vs B (Q.m r) e, .bool false, Vs B' r.den e']), V.E (.agg #[.bool (Q.neg r), Vs B (Q.m r) e, .bool false, Vs B' r.den e']), (fun v W => ∃ A11 : Option Addr, ∃ c12 : Nat, ∃ A13 : Option Addr, ∃ c14 : Nat, v = .agg #[.bool (Q.neg (q + r)), Vs A11 (Q.m (q + r)) c12, .bool false, Vs A13 ((q + r).den) c14] ∧ R16 W A11 ((Lb.limbs (Q.m (q + r))).length) c12 (Lb.limbs (Q.m (q + r))) ∧ R16 W A13 ((Lb.limbs ((q + r).den)).length) c14 (Lb.limbs ((q + r).den)) ∧ (∀ ad, A11 = some ad → w.heap.size ≤ ad.block) ∧ (∀ ad, A13 = some ad → w.heap.size ≤ ad.block)), (fun v W => ∃ A19 : Option Addr, ∃ c20 : Nat, ∃ A21 : Option Addr, ∃ c22 : Nat, v = .tuple #[.agg #[.bool (Q.neg (q + r)), Vs A19 (Q.m (q + r)) c20, .bool false, Vs A21 ((q + r).den) c22], .int .i64 0] ∧ R16 W A19 ((Lb.limbs (Q.m (q + r))).length) c20 (Lb.limbs (Q.m (q + r))) ∧ R16 W A21 ((Lb.limbs ((q + r).den)).length) c22 (Lb.limbs ((q + r).den)) ∧ (∀ ad, A19 = some ad → w.heap.size ≤ ad.block) ∧ (∀ ad, A21 = some ad → w.heap.size ≤ ad.block)), (fun v W => ∃ A23 : Option Addr, ∃ c24 : Nat, ∃ A25 : Option Addr, ∃ c26 : Nat, v = .agg #[.bool (Q.neg (q + r)), Vs A23 (Q.m (q + r)) c24, .bool false, Vs A25 ((q + r).den) c26] ∧ R16 W A23 ((Lb.limbs (Q.m (q + r))).length) c24 (Lb.limbs (Q.m (q + r))) ∧ R16 W A25 ((Lb.limbs ((q + r).den)).length) c26 (Lb.limbs ((q + r).den)) ∧ (∀ ad, A23 = some ad → w.heap.size ≤ ad.block) ∧ (∀ ad, A25 = some ad → w.heap.size ≤ ad.block)), V.E (.int .i64 0)] [] (V.i h1 (V.i h2 (V.i h3 (V.i h4 (V.i hb (V.i b_g1 (V.i b_g2 b_g3))))))) ?_ ?_
 ·refine V.ac ?_ (V.ac ?_ (V.ac ?_ (V.ac ?_ (V.ac ?_ (V.ac ?_ (V.ac ?_ (V.ac ?_ V.an)))))))
  ·exact V.z1 rfl fun h => V.xl (V.eo h 2 s2) (V.lr h.g.1.2.2.2.2.2.1 Tryz.underlying39)
  ·exact V.z1 rfl fun h => V.b1 (V.ed h 0 12 rfl)
  ·exact V.z1 rfl fun h => V.xl (V.eo h 3 s3) (V.lr h.g.1.2.2.2.2.2.2.1 Tryz.underlying39)
  ·exact V.z1 rfl fun h => V.b1 (V.ed h 2 14 rfl)
  ·refine V.s2 rfl fun f W h => ?_
   refine V.call en54 (V.args2 (V.ed h 1 13 rfl) (V.ed h 3 15 rfl)) (Calls.mono (plus_r h.g.1.1 h.g.1.2.1 h.g.1.2.2.1 h.g.1.2.2.2.1 hq hr (by omega) rfl rfl rfl) ?_)
   rintro e W' ⟨A11, c12, A13, c14, rfl, k15, k17, p16, p18, hb⟩
   exact ⟨_, rfl, ⟨A11, c12, A13, c14, rfl, k15, k17, (fun ad e => Nat.le_trans h.g.1.2.2.2.2.1.size (p16 ad e)), (fun ad e => Nat.le_trans h.g.1.2.2.2.2.1.size (p18 ad e))⟩, hb⟩
  ·refine V.s2 rfl fun f W h => ?_
   obtain ⟨A11, c12, A13, c14, a16, k4_0, k4_1, p4_0, p4_1⟩ := V.dp h 4 16 (by kernel_rfl) rfl
   refine V.call en51 (V.args1 (V.ev_tmp rfl a16)) (Calls.mono (told_ok (Q.Sz.fits hs)) ?_)
   rintro e W' ⟨rfl, hb⟩
   exact ⟨_, rfl, ⟨A11, c12, A13, c14, rfl, (k4_0.below hb (Nat.le_refl _)), (k4_1.below hb (Nat.le_refl _)), p4_0, p4_1⟩, hb⟩
  ·refine V.s2 rfl fun f W h => ?_
   obtain ⟨A19, c20, A21, c22, a17, k5_0, k5_1, p5_0, p5_1⟩ := V.dp h 5 17 (by kernel_rfl) rfl
   exact V.v2 (.agg #[.bool (Q.neg (q + r)), Vs A19 (Q.m (q + r)) c20, .bool false, Vs A21 ((q + r).den) c22]) (V.xe (V.ev_tmp rfl a17)) ⟨A19, c20, A21, c22, rfl, k5_0, k5_1, p5_0, p5_1⟩
  ·refine V.s1 rfl fun f W h => ?_
   obtain ⟨A19, c20, A21, c22, a17, k5_0, k5_1, p5_0, p5_1⟩ := V.dp h 5 17 (by kernel_rfl) rfl
   exact V.xe (V.ev_tmp rfl a17)
 intro f27 W28 hE29
 clear h1 h2 h3 h4 hb b_g1 b_g2 b_g3
 obtain ⟨⟨h1, h2, h3, h4, hb, b_g1, b_g2, b_g3⟩, hsz⟩ := hE29.g
 obtain ⟨s0, s1, s4, s5⟩ := V.e4 hE29 s0 s1 s4 s5
 obtain ⟨A23, c24, A25, c26, s18, r30, r31, n32, n33⟩ := V.eq hE29 6 18 rfl
 have s19 := V.es hE29 7 19 rfl
 clear hE29 hsz
 refine V.t_st (k := 8) rfl (V.x_store (V.ev_tmp rfl s4) (V.ev_tmp rfl s18) (V.st_row b_g3)) b_g3 fun W34 hs b' => ?_
 replace h1 := hs.r16 h1
 replace h2 := hs.r16 h2
 replace h3 := hs.r16 h3
 replace h4 := hs.r16 h4
 replace hb := hs.bel hb m_g3
 replace b_g1 := hs.blk b_g1 q_g1_g3
 replace b_g2 := hs.blk b_g2 q_g2_g3
 replace r30 := hs.r16 r30
 replace r31 := hs.r16 r31
 replace b_g3 := b'
 clear hs b'
 refine V.t_val (k := 9) (v := .int .i64 0) (t := 5) rfl rfl rfl (by kernel_rfl) trivial (V.xs (V.ev_tmp rfl s19)) ?_
 intro f35 e36 u37
 replace s0 : f35 0 = .agg #[.bool (Q.neg q), Vs A (Q.m q) c, .bool false, Vs A' q.den c'] := (u37 0 (by decide)).trans s0
 replace s1 : f35 1 = .agg #[.bool (Q.neg r), Vs B (Q.m r) e, .bool false, Vs B' r.den e'] := (u37 1 (by decide)).trans s1
 replace s4 : f35 4 = Vp g3 0 := (u37 4 (by decide)).trans s4
 replace s18 : f35 18 = .agg #[.bool (Q.neg (q + r)), Vs A23 (Q.m (q + r)) c24, .bool false, Vs A25 ((q + r).den) c26] := (u37 18 (by decide)).trans s18
 replace s19 : f35 19 = .int .i64 0 := (u37 19 (by decide)).trans s19
 have s5 := e36
 clear u37
 refine V.t_done rfl (V.nx (V.ret ?_))
 refine V.leave_any (.inl rfl) (V.res_cellTmp rfl rfl rfl s4 s5 (V.lr b_g3 Tryz.underlying39 rfl (by kernel_rfl))) ?_
 exact ⟨A23, c24, A25, c26, rfl, r30, r31, n32, n33, hb⟩
theorem Mul_q {A A' B B' : Option Addr} {c c' e e' : Nat} {q r : Rat} {w : World} {k l : Nat} (h1 : R16 w A (Lb.limbs (Q.m q)).length c (Lb.limbs (Q.m q))) (h2 : R16 w A' (Lb.limbs q.den).length c' (Lb.limbs q.den)) (h3 : R16 w B (Lb.limbs (Q.m r)).length e (Lb.limbs (Q.m r))) (h4 : R16 w B' (Lb.limbs r.den).length e' (Lb.limbs r.den)) (hq : Q.Sz k q) (hr : Q.Sz l r) (hk : k ≤ 256) (hl : l ≤ 256) (hs : Q.Sz 256 (q * r)) :
    Calls Tryz.prog 28 #[.agg #[.bool (Q.neg q), Vs A (Q.m q) c, .bool false, Vs A' q.den c'], .agg #[.bool (Q.neg r), Vs B (Q.m r) e, .bool false, Vs B' r.den e']] w (TupF w (Q.neg (q * r)) (Q.m (q * r)) (q * r).den) := by
 refine V.enter Tryz.func28 rfl rfl (by simp) fun f0 hf => ?_
 have s0 : f0 0 = .agg #[.bool (Q.neg q), Vs A (Q.m q) c, .bool false, Vs A' q.den c'] := hf 0 (by simp)
 have s1 : f0 1 = .agg #[.bool (Q.neg r), Vs B (Q.m r) e, .bool false, Vs B' r.den e'] := hf 1 (by simp)
 clear hf
 have hb : Below w.heap.size w w := Below.refl _ _
 refine V.seq ?_
 refine V.reg 4 [V.Nb w 39 #[.bool (Q.neg q), Vs A (Q.m q) c, .bool false, Vs A' q.den c'], V.Nb w 39 #[.bool (Q.neg r), Vs B (Q.m r) e, .bool false, Vs B' r.den e'], V.Nb w 39 #[.bool false, .slice none 0 0, .bool false, .slice none 0 0], V.E (.int .i64 0)] [0, 1, 2] (V.i h1 (V.i h2 (V.i h3 (V.i h4 hb)))) ?_ ?_
 ·refine V.ac ?_ (V.ac ?_ (V.ac ?_ (V.ac ?_ V.an)))
  ·exact V.sn rfl fun f W h => V.x_box (V.eo h 0 s0)
  ·exact V.sn rfl fun f W h => V.x_box (V.eo h 1 s1)
  ·exact V.sn rfl fun f W h => V.x_alloc
  ·exact V.z1 rfl fun h => V.xs rfl
 have o_bel := hb.size
 intro f41 W42 hE43
 clear h1 h2 h3 h4 hb
 obtain ⟨⟨h1, h2, h3, h4, hb⟩, hsz⟩ := hE43.g
 obtain ⟨s0, s1⟩ := V.e2 hE43 s0 s1
 obtain ⟨g38, s2, b_g38, l_g38⟩ := V.eq hE43 0 2 rfl
 obtain ⟨g39, s3, b_g39, l_g39⟩ := V.eq hE43 1 3 rfl
 obtain ⟨g40, s4, b_g40, l_g40⟩ := V.eq hE43 2 4 rfl
 have m_g40 : w.heap.size ≤ g40 := Nat.le_trans o_bel l_g40
 have q_g38_g40 : g38 ≠ g40 := V.ep hE43 0 2 2 4 s2 s4
 have q_g39_g40 : g39 ≠ g40 := V.ep hE43 1 2 3 4 s3 s4
 have s5 := V.es hE43 3 5 rfl
 clear hE43 hsz
 clear o_bel
 refine V.t_done rfl (V.nx (V.seq (V.seq ?_)))
 refine V.reg 5 [V.E (.agg #[.bool (Q.neg q), Vs A (Q.m q) c, .bool false, Vs A' q.den c']), V.E (.agg #[.bool (Q.neg r), Vs B (Q.m r) e, .bool false, Vs B' r.den e']), (fun v W => ∃ g44 : Nat, v = .slice (some ⟨g44, 0, none⟩) 2 2 ∧ Blk W g44 39 #[.bool (Q.neg q), Vs A (Q.m q) c, .bool false, Vs A' q.den c', .bool (Q.neg r), Vs B (Q.m r) e, .bool false, Vs B' r.den e'] ∧ (w.heap.size ≤ g44)), V.E (.bool true), V.E (.bool false)] [] (V.i h1 (V.i h2 (V.i h3 (V.i h4 (V.i hb (V.i b_g38 (V.i b_g39 b_g40))))))) ?_ ?_
 ·refine V.ac ?_ (V.ac ?_ (V.ac ?_ (V.ac ?_ (V.ac ?_ V.an))))
  ·exact V.z1 rfl fun h => V.xl (V.eo h 2 s2) (V.lr h.g.1.2.2.2.2.2.1 Tryz.underlying39)
  ·exact V.z1 rfl fun h => V.xl (V.eo h 3 s3) (V.lr h.g.1.2.2.2.2.2.2.1 Tryz.underlying39)
  ·refine V.s2 rfl fun f W h => ?_
   exact V.valv (.slice (some ⟨W.heap.size, 0, none⟩) 2 2) (V.c2 (V.ed h 0 6 rfl) (V.ed h 1 7 rfl)) ⟨⟨W.heap.size, rfl, Blk.new W 39 #[.bool (Q.neg q), Vs A (Q.m q) c, .bool false, Vs A' q.den c', .bool (Q.neg r), Vs B (Q.m r) e, .bool false, Vs B' r.den e'], h.g.1.2.2.2.2.1.size⟩, (Below.refl _ _).alloc (Nat.le_refl _) _⟩
  ·refine V.s2 rfl fun f W h => ?_
   obtain ⟨g44, a8, k2_0, p2_0⟩ := V.dp h 2 8 (by kernel_rfl) rfl
   refine V.call en53 (V.args1 (V.ev_tmp rfl a8)) (Calls.mono (valid2_q h.g.1.1 h.g.1.2.1 h.g.1.2.2.1 h.g.1.2.2.2.1 k2_0 (hq.mono hk) (hr.mono hl)) ?_)
   rintro e W' ⟨rfl, hb⟩
   exact ⟨_, rfl, rfl, hb⟩
  ·exact V.z1 rfl fun h => V.x_un (V.ed h 3 9 rfl)
 intro f45 W46 hE47
 clear h1 h2 h3 h4 hb b_g38 b_g39 b_g40
 obtain ⟨⟨h1, h2, h3, h4, hb, b_g38, b_g39, b_g40⟩, hsz⟩ := hE47.g
 obtain ⟨s0, s1, s2, s3, s4, s5⟩ := V.e6 hE47 s0 s1 s2 s3 s4 s5
 have s10 := V.es hE47 4 10 rfl
 clear hE47 hsz
 refine V.t_done rfl (V.nx ?_)
 refine V.cond_f (V.ev_tmp rfl s10) ?_
 refine V.skip ?_
 refine V.nx (V.seq ?_)
 refine V.reg 8 [V.E (.agg #[.bool (Q.neg q), Vs A (Q.m q) c, .bool false, Vs A' q.den c']), V.E (.agg #[.bool (Q.neg q), Vs A (Q.m q) c, .bool false, Vs A' q.den c']), V.E (.agg #[.bool (Q.neg r), Vs B (Q.m r) e, .bool false, Vs B' r.den e']), V.E (.agg #[.bool (Q.neg r), Vs B (Q.m r) e, .bool false, Vs B' r.den e']), (fun v W => ∃ A48 : Option Addr, ∃ c49 : Nat, ∃ A50 : Option Addr, ∃ c51 : Nat, v = .agg #[.bool (Q.neg (q * r)), Vs A48 (Q.m (q * r)) c49, .bool false, Vs A50 ((q * r).den) c51] ∧ R16 W A48 ((Lb.limbs (Q.m (q * r))).length) c49 (Lb.limbs (Q.m (q * r))) ∧ R16 W A50 ((Lb.limbs ((q * r).den)).length) c51 (Lb.limbs ((q * r).den)) ∧ (∀ ad, A48 = some ad → w.heap.size ≤ ad.block) ∧ (∀ ad, A50 = some ad → w.heap.size ≤ ad.block)), (fun v W => ∃ A56 : Option Addr, ∃ c57 : Nat, ∃ A58 : Option Addr, ∃ c59 : Nat, v = .tuple #[.agg #[.bool (Q.neg (q * r)), Vs A56 (Q.m (q * r)) c57, .bool false, Vs A58 ((q * r).den) c59], .int .i64 0] ∧ R16 W A56 ((Lb.limbs (Q.m (q * r))).length) c57 (Lb.limbs (Q.m (q * r))) ∧ R16 W A58 ((Lb.limbs ((q * r).den)).length) c59 (Lb.limbs ((q * r).den)) ∧ (∀ ad, A56 = some ad → w.heap.size ≤ ad.block) ∧ (∀ ad, A58 = some ad → w.heap.size ≤ ad.block)), (fun v W => ∃ A60 : Option Addr, ∃ c61 : Nat, ∃ A62 : Option Addr, ∃ c63 : Nat, v = .agg #[.bool (Q.neg (q * r)), Vs A60 (Q.m (q * r)) c61, .bool false, Vs A62 ((q * r).den) c63] ∧ R16 W A60 ((Lb.limbs (Q.m (q * r))).length) c61 (Lb.limbs (Q.m (q * r))) ∧ R16 W A62 ((Lb.limbs ((q * r).den)).length) c63 (Lb.limbs ((q * r).den)) ∧ (∀ ad, A60 = some ad → w.heap.size ≤ ad.block) ∧ (∀ ad, A62 = some ad → w.heap.size ≤ ad.block)), V.E (.int .i64 0)] [] (V.i h1 (V.i h2 (V.i h3 (V.i h4 (V.i hb (V.i b_g38 (V.i b_g39 b_g40))))))) ?_ ?_
 ·refine V.ac ?_ (V.ac ?_ (V.ac ?_ (V.ac ?_ (V.ac ?_ (V.ac ?_ (V.ac ?_ (V.ac ?_ V.an)))))))
  ·exact V.z1 rfl fun h => V.xl (V.eo h 2 s2) (V.lr h.g.1.2.2.2.2.2.1 Tryz.underlying39)
  ·exact V.z1 rfl fun h => V.b1 (V.ed h 0 12 rfl)
  ·exact V.z1 rfl fun h => V.xl (V.eo h 3 s3) (V.lr h.g.1.2.2.2.2.2.2.1 Tryz.underlying39)
  ·exact V.z1 rfl fun h => V.b1 (V.ed h 2 14 rfl)
  ·refine V.s2 rfl fun f W h => ?_
   refine V.call en64 (V.args2 (V.ed h 1 13 rfl) (V.ed h 3 15 rfl)) (Calls.mono (times_q h.g.1.1 h.g.1.2.1 h.g.1.2.2.1 h.g.1.2.2.2.1 hq hr (by omega)) ?_)
   rintro e W' ⟨A48, c49, A50, c51, rfl, k52, k54, p53, p55, hb⟩
   exact ⟨_, rfl, ⟨A48, c49, A50, c51, rfl, k52, k54, (fun ad e => Nat.le_trans h.g.1.2.2.2.2.1.size (p53 ad e)), (fun ad e => Nat.le_trans h.g.1.2.2.2.2.1.size (p55 ad e))⟩, hb⟩
  ·refine V.s2 rfl fun f W h => ?_
   obtain ⟨A48, c49, A50, c51, a16, k4_0, k4_1, p4_0, p4_1⟩ := V.dp h 4 16 (by kernel_rfl) rfl
   refine V.call en51 (V.args1 (V.ev_tmp rfl a16)) (Calls.mono (told_ok (Q.Sz.fits hs)) ?_)
   rintro e W' ⟨rfl, hb⟩
   exact ⟨_, rfl, ⟨A48, c49, A50, c51, rfl, (k4_0.below hb (Nat.le_refl _)), (k4_1.below hb (Nat.le_refl _)), p4_0, p4_1⟩, hb⟩
  ·refine V.s2 rfl fun f W h => ?_
   obtain ⟨A56, c57, A58, c59, a17, k5_0, k5_1, p5_0, p5_1⟩ := V.dp h 5 17 (by kernel_rfl) rfl
   exact V.v2 (.agg #[.bool (Q.neg (q * r)), Vs A56 (Q.m (q * r)) c57, .bool false, Vs A58 ((q * r).den) c59]) (V.xe (V.ev_tmp rfl a17)) ⟨A56, c57, A58, c59, rfl, k5_0, k5_1, p5_0, p5_1⟩
  ·refine V.s1 rfl fun f W h => ?_
   obtain ⟨A56, c57, A58, c59, a17, k5_0, k5_1, p5_0, p5_1⟩ := V.dp h 5 17 (by kernel_rfl) rfl
   exact V.xe (V.ev_tmp rfl a17)
 intro f64 W65 hE66
 clear h1 h2 h3 h4 hb b_g38 b_g39 b_g40
 obtain ⟨⟨h1, h2, h3, h4, hb, b_g38, b_g39, b_g40⟩, hsz⟩ := hE66.g
 obtain ⟨s0, s1, s4, s5⟩ := V.e4 hE66 s0 s1 s4 s5
 obtain ⟨A60, c61, A62, c63, s18, r67, r68, n69, n70⟩ := V.eq hE66 6 18 rfl
 have s19 := V.es hE66 7 19 rfl
 clear hE66 hsz
 refine V.t_st (k := 8) rfl (V.x_store (V.ev_tmp rfl s4) (V.ev_tmp rfl s18) (V.st_row b_g40)) b_g40 fun W71 hs b' => ?_
 replace h1 := hs.r16 h1
 replace h2 := hs.r16 h2
 replace h3 := hs.r16 h3
 replace h4 := hs.r16 h4
 replace hb := hs.bel hb m_g40
 replace b_g38 := hs.blk b_g38 q_g38_g40
 replace b_g39 := hs.blk b_g39 q_g39_g40
 replace r67 := hs.r16 r67
 replace r68 := hs.r16 r68
 replace b_g40 := b'
 clear hs b'
 refine V.t_val (k := 9) (v := .int .i64 0) (t := 5) rfl rfl rfl (by kernel_rfl) trivial (V.xs (V.ev_tmp rfl s19)) ?_
 intro f72 e73 u74
 replace s0 : f72 0 = .agg #[.bool (Q.neg q), Vs A (Q.m q) c, .bool false, Vs A' q.den c'] := (u74 0 (by decide)).trans s0
 replace s1 : f72 1 = .agg #[.bool (Q.neg r), Vs B (Q.m r) e, .bool false, Vs B' r.den e'] := (u74 1 (by decide)).trans s1
 replace s4 : f72 4 = Vp g40 0 := (u74 4 (by decide)).trans s4
 replace s18 : f72 18 = .agg #[.bool (Q.neg (q * r)), Vs A60 (Q.m (q * r)) c61, .bool false, Vs A62 ((q * r).den) c63] := (u74 18 (by decide)).trans s18
 replace s19 : f72 19 = .int .i64 0 := (u74 19 (by decide)).trans s19
 have s5 := e73
 clear u74
 refine V.t_done rfl (V.nx (V.ret ?_))
 refine V.leave_any (.inl rfl) (V.res_cellTmp rfl rfl rfl s4 s5 (V.lr b_g40 Tryz.underlying39 rfl (by kernel_rfl))) ?_
 exact ⟨A60, c61, A62, c63, rfl, r67, r68, n69, n70, hb⟩
theorem Sub_n {A A' B B' : Option Addr} {c c' e e' : Nat} {q r : Rat} {w : World} {k l : Nat} (h1 : R16 w A (Lb.limbs (Q.m q)).length c (Lb.limbs (Q.m q))) (h2 : R16 w A' (Lb.limbs q.den).length c' (Lb.limbs q.den)) (h3 : R16 w B (Lb.limbs (Q.m r)).length e (Lb.limbs (Q.m r))) (h4 : R16 w B' (Lb.limbs r.den).length e' (Lb.limbs r.den)) (hq : Q.Sz k q) (hr : Q.Sz l r) (hk : k ≤ 256) (hl : l ≤ 256) (hs : Q.Sz 256 (q + - r)) :
    Calls Tryz.prog 18 #[.agg #[.bool (Q.neg q), Vs A (Q.m q) c, .bool false, Vs A' q.den c'], .agg #[.bool (Q.neg r), Vs B (Q.m r) e, .bool false, Vs B' r.den e']] w (TupF w (Q.neg (q + - r)) (Q.m (q + - r)) (q + - r).den) := by
 refine V.enter Tryz.func18 rfl rfl (by simp) fun f0 hf => ?_
 have s0 : f0 0 = .agg #[.bool (Q.neg q), Vs A (Q.m q) c, .bool false, Vs A' q.den c'] := hf 0 (by simp)
 have s1 : f0 1 = .agg #[.bool (Q.neg r), Vs B (Q.m r) e, .bool false, Vs B' r.den e'] := hf 1 (by simp)
 clear hf
 have hb : Below w.heap.size w w := Below.refl _ _
 refine V.seq ?_
 refine V.reg 4 [V.Nb w 39 #[.bool (Q.neg q), Vs A (Q.m q) c, .bool false, Vs A' q.den c'], V.Nb w 39 #[.bool (Q.neg r), Vs B (Q.m r) e, .bool false, Vs B' r.den e'], V.Nb w 39 #[.bool false, .slice none 0 0, .bool false, .slice none 0 0], V.E (.int .i64 0)] [0, 1, 2] (V.i h1 (V.i h2 (V.i h3 (V.i h4 hb)))) ?_ ?_
 ·refine V.ac ?_ (V.ac ?_ (V.ac ?_ (V.ac ?_ V.an)))
  ·exact V.sn rfl fun f W h => V.x_box (V.eo h 0 s0)
  ·exact V.sn rfl fun f W h => V.x_box (V.eo h 1 s1)
  ·exact V.sn rfl fun f W h => V.x_alloc
  ·exact V.z1 rfl fun h => V.xs rfl
 have o_bel := hb.size
 intro f78 W79 hE80
 clear h1 h2 h3 h4 hb
 obtain ⟨⟨h1, h2, h3, h4, hb⟩, hsz⟩ := hE80.g
 obtain ⟨s0, s1⟩ := V.e2 hE80 s0 s1
 obtain ⟨g75, s2, b_g75, l_g75⟩ := V.eq hE80 0 2 rfl
 obtain ⟨g76, s3, b_g76, l_g76⟩ := V.eq hE80 1 3 rfl
 obtain ⟨g77, s4, b_g77, l_g77⟩ := V.eq hE80 2 4 rfl
 have m_g77 : w.heap.size ≤ g77 := Nat.le_trans o_bel l_g77
 have q_g75_g77 : g75 ≠ g77 := V.ep hE80 0 2 2 4 s2 s4
 have q_g76_g77 : g76 ≠ g77 := V.ep hE80 1 2 3 4 s3 s4
 have s5 := V.es hE80 3 5 rfl
 clear hE80 hsz
 clear o_bel
 refine V.t_done rfl (V.nx (V.seq (V.seq ?_)))
 refine V.reg 5 [V.E (.agg #[.bool (Q.neg q), Vs A (Q.m q) c, .bool false, Vs A' q.den c']), V.E (.agg #[.bool (Q.neg r), Vs B (Q.m r) e, .bool false, Vs B' r.den e']), (fun v W => ∃ g81 : Nat, v = .slice (some ⟨g81, 0, none⟩) 2 2 ∧ Blk W g81 39 #[.bool (Q.neg q), Vs A (Q.m q) c, .bool false, Vs A' q.den c', .bool (Q.neg r), Vs B (Q.m r) e, .bool false, Vs B' r.den e'] ∧ (w.heap.size ≤ g81)), V.E (.bool true), V.E (.bool false)] [] (V.i h1 (V.i h2 (V.i h3 (V.i h4 (V.i hb (V.i b_g75 (V.i b_g76 b_g77))))))) ?_ ?_
 ·refine V.ac ?_ (V.ac ?_ (V.ac ?_ (V.ac ?_ (V.ac ?_ V.an))))
  ·exact V.z1 rfl fun h => V.xl (V.eo h 2 s2) (V.lr h.g.1.2.2.2.2.2.1 Tryz.underlying39)
  ·exact V.z1 rfl fun h => V.xl (V.eo h 3 s3) (V.lr h.g.1.2.2.2.2.2.2.1 Tryz.underlying39)
  ·refine V.s2 rfl fun f W h => ?_
   exact V.valv (.slice (some ⟨W.heap.size, 0, none⟩) 2 2) (V.c2 (V.ed h 0 6 rfl) (V.ed h 1 7 rfl)) ⟨⟨W.heap.size, rfl, Blk.new W 39 #[.bool (Q.neg q), Vs A (Q.m q) c, .bool false, Vs A' q.den c', .bool (Q.neg r), Vs B (Q.m r) e, .bool false, Vs B' r.den e'], h.g.1.2.2.2.2.1.size⟩, (Below.refl _ _).alloc (Nat.le_refl _) _⟩
  ·refine V.s2 rfl fun f W h => ?_
   obtain ⟨g81, a8, k2_0, p2_0⟩ := V.dp h 2 8 (by kernel_rfl) rfl
   refine V.call en53 (V.args1 (V.ev_tmp rfl a8)) (Calls.mono (valid2_q h.g.1.1 h.g.1.2.1 h.g.1.2.2.1 h.g.1.2.2.2.1 k2_0 (hq.mono hk) (hr.mono hl)) ?_)
   rintro e W' ⟨rfl, hb⟩
   exact ⟨_, rfl, rfl, hb⟩
  ·exact V.z1 rfl fun h => V.x_un (V.ed h 3 9 rfl)
 intro f82 W83 hE84
 clear h1 h2 h3 h4 hb b_g75 b_g76 b_g77
 obtain ⟨⟨h1, h2, h3, h4, hb, b_g75, b_g76, b_g77⟩, hsz⟩ := hE84.g
 obtain ⟨s0, s1, s2, s3, s4, s5⟩ := V.e6 hE84 s0 s1 s2 s3 s4 s5
 have s10 := V.es hE84 4 10 rfl
 clear hE84 hsz
 refine V.t_done rfl (V.nx ?_)
 refine V.cond_f (V.ev_tmp rfl s10) ?_
 refine V.skip ?_
 refine V.nx (V.seq ?_)
 refine V.reg 13 [V.E (.agg #[.bool (Q.neg q), Vs A (Q.m q) c, .bool false, Vs A' q.den c']), V.E (.agg #[.bool (Q.neg q), Vs A (Q.m q) c, .bool false, Vs A' q.den c']), V.E (Vp g76 0), V.E (.agg #[.bool (Q.neg r), Vs B (Q.m r) e]), (fun v W => ∃ A85 : Option Addr, ∃ c86 : Nat, v = .agg #[.bool (Q.neg (-r)), Vs A85 (Q.m r) c86] ∧ R16 W A85 ((Lb.limbs (Q.m r)).length) c86 (Lb.limbs (Q.m r)) ∧ (∀ ad, A85 = some ad → w.heap.size ≤ ad.block)), V.E (Vp g76 2), V.E (.agg #[.bool false, Vs B' r.den e']), (fun v W => ∃ A89 : Option Addr, ∃ c90 : Nat, v = .agg #[.bool (Q.neg (-r)), Vs A89 (Q.m r) c90, .bool false, Vs B' r.den e'] ∧ R16 W A89 ((Lb.limbs (Q.m r)).length) c90 (Lb.limbs (Q.m r)) ∧ (∀ ad, A89 = some ad → w.heap.size ≤ ad.block)), (fun v W => ∃ A91 : Option Addr, ∃ c92 : Nat, v = .agg #[.bool (Q.neg (-r)), Vs A91 (Q.m r) c92, .bool false, Vs B' r.den e'] ∧ R16 W A91 ((Lb.limbs (Q.m r)).length) c92 (Lb.limbs (Q.m r)) ∧ (∀ ad, A91 = some ad → w.heap.size ≤ ad.block)), (fun v W => ∃ A93 : Option Addr, ∃ c94 : Nat, ∃ A95 : Option Addr, ∃ c96 : Nat, v = .agg #[.bool (Q.neg (q + (-r))), .slice A93 (Lb.limbs (Q.m (q + (-r)))).length c94, .bool false, .slice A95 (Lb.limbs ((q + (-r)).den)).length c96] ∧ R16 W A93 ((Lb.limbs (Q.m (q + (-r)))).length) c94 (Lb.limbs (Q.m (q + (-r)))) ∧ R16 W A95 ((Lb.limbs ((q + (-r)).den)).length) c96 (Lb.limbs ((q + (-r)).den)) ∧ (∀ ad, A93 = some ad → w.heap.size ≤ ad.block) ∧ (∀ ad, A95 = some ad → w.heap.size ≤ ad.block)), (fun v W => ∃ A101 : Option Addr, ∃ c102 : Nat, ∃ A103 : Option Addr, ∃ c104 : Nat, v = .tuple #[.agg #[.bool (Q.neg (q + (-r))), .slice A101 (Lb.limbs (Q.m (q + (-r)))).length c102, .bool false, .slice A103 (Lb.limbs ((q + (-r)).den)).length c104], .int .i64 0] ∧ R16 W A101 ((Lb.limbs (Q.m (q + (-r)))).length) c102 (Lb.limbs (Q.m (q + (-r)))) ∧ R16 W A103 ((Lb.limbs ((q + (-r)).den)).length) c104 (Lb.limbs ((q + (-r)).den)) ∧ (∀ ad, A101 = some ad → w.heap.size ≤ ad.block) ∧ (∀ ad, A103 = some ad → w.heap.size ≤ ad.block)), (fun v W => ∃ A105 : Option Addr, ∃ c106 : Nat, ∃ A107 : Option Addr, ∃ c108 : Nat, v = .agg #[.bool (Q.neg (q + (-r))), .slice A105 (Lb.limbs (Q.m (q + (-r)))).length c106, .bool false, .slice A107 (Lb.limbs ((q + (-r)).den)).length c108] ∧ R16 W A105 ((Lb.limbs (Q.m (q + (-r)))).length) c106 (Lb.limbs (Q.m (q + (-r)))) ∧ R16 W A107 ((Lb.limbs ((q + (-r)).den)).length) c108 (Lb.limbs ((q + (-r)).den)) ∧ (∀ ad, A105 = some ad → w.heap.size ≤ ad.block) ∧ (∀ ad, A107 = some ad → w.heap.size ≤ ad.block)), V.E (.int .i64 0)] [] (V.i h1 (V.i h2 (V.i h3 (V.i h4 (V.i hb (V.i b_g75 (V.i b_g76 b_g77))))))) ?_ ?_
 ·refine V.ac ?_ (V.ac ?_ (V.ac ?_ (V.ac ?_ (V.ac ?_ (V.ac ?_ (V.ac ?_ (V.ac ?_ (V.ac ?_ (V.ac ?_ (V.ac ?_ (V.ac ?_ (V.ac ?_ V.an))))))))))))
  ·exact V.z1 rfl fun h => V.xl (V.eo h 2 s2) (V.lr h.g.1.2.2.2.2.2.1 Tryz.underlying39)
  ·exact V.z1 rfl fun h => V.b1 (V.ed h 0 12 rfl)
  ·exact V.z1 rfl fun h => V.xa (V.eo h 3 s3)
  ·exact V.z1 rfl fun h => V.xl (V.ed h 2 14 rfl) (V.ld_mid (xs := [.bool (Q.neg r), Vs B (Q.m r) e]) h.g.1.2.2.2.2.2.2.1 (by intro j hj; match j, hj with | 0, _ => rfl | 1, _ => rfl) Tryz.underlying35)
  ·refine V.s2 rfl fun f W h => ?_
   refine V.call en49 (V.args1 (V.ed h 3 15 rfl)) (Calls.mono (negated_nn (Q.neg (-r)) h.g.1.2.2.1 (Nat.le_trans (Q.len_le hr.n) (by omega)) (Q.neg_neg r)) ?_)
   rintro e W' ⟨A85, c86, rfl, k87, p88, hb⟩
   exact ⟨_, rfl, ⟨A85, c86, rfl, k87, (fun ad e => Nat.le_trans h.g.1.2.2.2.2.1.size (p88 ad e))⟩, hb⟩
  ·exact V.z1 rfl fun h => V.xa (V.eo h 3 s3)
  ·exact V.z1 rfl fun h => V.xl (V.ed h 5 17 rfl) (V.ld_mid (xs := [.bool false, Vs B' r.den e']) h.g.1.2.2.2.2.2.2.1 (by intro j hj; match j, hj with | 0, _ => rfl | 1, _ => rfl) Tryz.underlying35)
  ·refine V.s2 rfl fun f W h => ?_
   obtain ⟨A85, c86, a16, k4_0, p4_0⟩ := V.dp h 4 16 (by kernel_rfl) rfl
   exact V.v2 (.agg #[.bool (Q.neg (-r)), Vs A85 (Q.m r) c86, .bool false, Vs B' r.den e']) (V.b2 (V.ev_tmp rfl a16) (V.ed h 6 18 rfl)) ⟨A85, c86, rfl, k4_0, p4_0⟩
  ·refine V.s2 rfl fun f W h => ?_
   obtain ⟨A89, c90, a19, k7_0, p7_0⟩ := V.dp h 7 19 (by kernel_rfl) rfl
   exact V.v2 (.agg #[.bool (Q.neg (-r)), Vs A89 (Q.m r) c90, .bool false, Vs B' r.den e']) (V.b1 (V.ev_tmp rfl a19)) ⟨A89, c90, rfl, k7_0, p7_0⟩
  ·refine V.s2 rfl fun f W h => ?_
   obtain ⟨A91, c92, a20, k8_0, p8_0⟩ := V.dp h 8 20 (by kernel_rfl) rfl
   refine V.call en54 (V.args2 (V.ed h 1 13 rfl) (V.ev_tmp rfl a20)) (Calls.mono (plus_r h.g.1.1 h.g.1.2.1 k8_0 h.g.1.2.2.2.1 hq hr.neg (by omega) rfl (Q.neg_m r) (Q.neg_den r)) ?_)
   rintro e W' ⟨A93, c94, A95, c96, rfl, k97, k99, p98, p100, hb⟩
   exact ⟨_, rfl, ⟨A93, c94, A95, c96, rfl, k97, k99, (fun ad e => Nat.le_trans h.g.1.2.2.2.2.1.size (p98 ad e)), (fun ad e => Nat.le_trans h.g.1.2.2.2.2.1.size (p100 ad e))⟩, hb⟩
  ·refine V.s2 rfl fun f W h => ?_
   obtain ⟨A93, c94, A95, c96, a21, k9_0, k9_1, p9_0, p9_1⟩ := V.dp h 9 21 (by kernel_rfl) rfl
   refine V.call en51 (V.args1 (V.ev_tmp rfl a21)) (Calls.mono (told_ok (Q.Sz.fits hs)) ?_)
   rintro e W' ⟨rfl, hb⟩
   exact ⟨_, rfl, ⟨A93, c94, A95, c96, rfl, (k9_0.below hb (Nat.le_refl _)), (k9_1.below hb (Nat.le_refl _)), p9_0, p9_1⟩, hb⟩
  ·refine V.s2 rfl fun f W h => ?_
   obtain ⟨A101, c102, A103, c104, a22, k10_0, k10_1, p10_0, p10_1⟩ := V.dp h 10 22 (by kernel_rfl) rfl
   exact V.v2 (.agg #[.bool (Q.neg (q + (-r))), .slice A101 (Lb.limbs (Q.m (q + (-r)))).length c102, .bool false, .slice A103 (Lb.limbs ((q + (-r)).den)).length c104]) (V.xe (V.ev_tmp rfl a22)) ⟨A101, c102, A103, c104, rfl, k10_0, k10_1, p10_0, p10_1⟩
  ·refine V.s1 rfl fun f W h => ?_
   obtain ⟨A101, c102, A103, c104, a22, k10_0, k10_1, p10_0, p10_1⟩ := V.dp h 10 22 (by kernel_rfl) rfl
   exact V.xe (V.ev_tmp rfl a22)
 intro f109 W110 hE111
 clear h1 h2 h3 h4 hb b_g75 b_g76 b_g77
 obtain ⟨⟨h1, h2, h3, h4, hb, b_g75, b_g76, b_g77⟩, hsz⟩ := hE111.g
 obtain ⟨s0, s1, s4, s5⟩ := V.e4 hE111 s0 s1 s4 s5
 obtain ⟨A105, c106, A107, c108, s23, r112, r113, n114, n115⟩ := V.eq hE111 11 23 rfl
 have s24 := V.es hE111 12 24 rfl
 clear hE111 hsz
 refine V.t_st (k := 13) rfl (V.x_store (V.ev_tmp rfl s4) (V.ev_tmp rfl s23) (V.st_row b_g77)) b_g77 fun W116 hs b' => ?_
 replace h1 := hs.r16 h1
 replace h2 := hs.r16 h2
 replace h3 := hs.r16 h3
 replace h4 := hs.r16 h4
 replace hb := hs.bel hb m_g77
 replace b_g75 := hs.blk b_g75 q_g75_g77
 replace b_g76 := hs.blk b_g76 q_g76_g77
 replace r112 := hs.r16 r112
 replace r113 := hs.r16 r113
 replace b_g77 := b'
 clear hs b'
 refine V.t_val (k := 14) (v := .int .i64 0) (t := 5) rfl rfl rfl (by kernel_rfl) trivial (V.xs (V.ev_tmp rfl s24)) ?_
 intro f117 e118 u119
 replace s0 : f117 0 = .agg #[.bool (Q.neg q), Vs A (Q.m q) c, .bool false, Vs A' q.den c'] := (u119 0 (by decide)).trans s0
 replace s1 : f117 1 = .agg #[.bool (Q.neg r), Vs B (Q.m r) e, .bool false, Vs B' r.den e'] := (u119 1 (by decide)).trans s1
 replace s4 : f117 4 = Vp g77 0 := (u119 4 (by decide)).trans s4
 replace s23 : f117 23 = .agg #[.bool (Q.neg (q + (-r))), .slice A105 (Lb.limbs (Q.m (q + (-r)))).length c106, .bool false, .slice A107 (Lb.limbs ((q + (-r)).den)).length c108] := (u119 23 (by decide)).trans s23
 replace s24 : f117 24 = .int .i64 0 := (u119 24 (by decide)).trans s24
 have s5 := e118
 clear u119
 refine V.t_done rfl (V.nx (V.ret ?_))
 refine V.leave_any (.inl rfl) (V.res_cellTmp rfl rfl rfl s4 s5 (V.lr b_g77 Tryz.underlying39 rfl (by kernel_rfl))) ?_
 exact ⟨A105, c106, A107, c108, rfl, r112, r113, n114, n115, hb⟩
theorem recip_p {A A' : Option Addr} {c c' m d : Nat} {w : World} (h1 : R16 w A (Lb.limbs m).length c (Lb.limbs m)) (h2 : R16 w A' (Lb.limbs d).length c' (Lb.limbs d)) (hm : (Lb.limbs m).length ≤ 1024) (hd : (Lb.limbs d).length ≤ 1024) (hd0 : d ≠ 0) :
    Calls Tryz.prog 169 #[.agg #[.bool false, Vs A m c, .bool false, Vs A' d c']] w fun ee w' => ∃ B e B' e', ee = .returned (.agg #[.bool false, Vs B d e, .bool false, Vs B' m e']) ∧ R16 w' B (Lb.limbs d).length e (Lb.limbs d) ∧ R16 w' B' (Lb.limbs m).length e' (Lb.limbs m) ∧ Below w.heap.size w w' := by
 refine V.enter Tryz.func169 rfl rfl (by simp) fun f0 hf => ?_
 have s0 : f0 0 = .agg #[.bool false, Vs A m c, .bool false, Vs A' d c'] := hf 0 (by simp)
 clear hf
 have hb : Below w.heap.size w w := Below.refl _ _
 refine V.seq ?_
 refine V.reg 2 [V.Nb w 82 #[.bool false, Vs A m c, .bool false, Vs A' d c'], V.Nb w 82 #[.bool false, .slice none 0 0, .bool false, .slice none 0 0]] [0, 1] (V.i h1 (V.i h2 hb)) ?_ ?_
 ·refine V.ac ?_ (V.ac ?_ V.an)
  ·exact V.sn rfl fun f W h => V.x_box (V.eo h 0 s0)
  ·exact V.sn rfl fun f W h => V.x_alloc
 have o_bel := hb.size
 intro f122 W123 hE124
 clear h1 h2 hb
 obtain ⟨⟨h1, h2, hb⟩, hsz⟩ := hE124.g
 replace s0 := V.e1 hE124 s0
 obtain ⟨g120, s1, b_g120, l_g120⟩ := V.eq hE124 0 1 rfl
 obtain ⟨g121, s2, b_g121, l_g121⟩ := V.eq hE124 1 2 rfl
 have m_g121 : w.heap.size ≤ g121 := Nat.le_trans o_bel l_g121
 clear hE124 hsz
 clear o_bel
 refine V.t_done rfl (V.nx (V.seq ?_))
 refine V.regF 8 [V.E (Vp g120 0), V.E (Vp g120 2), V.E (.agg #[.bool false, Vs A' d c']), V.E (Vp g120 0), V.E (Vp g120 0), V.E (.agg #[.bool false, Vs A m c]), V.Nb W123 35 #[.bool false, .slice none 0 0], V.Nb W123 35 #[.bool false, .slice none 0 0]] [6, 7] (V.i h1 (V.i h2 (V.i hb (V.i b_g120 b_g121)))) [3, 4, 5] (fun W => Blk W g120 82 #[.bool false, Vs A m c, .bool false, Vs A' d c']) (fun W h => h.1.2.2.2.1) ?_ ?_ ?_
 ·refine V.ac ?_ (V.ac ?_ (V.ac ?_ (V.ac ?_ (V.ac ?_ (V.ac ?_ (V.ac ?_ (V.ac ?_ V.an)))))))
  ·exact V.z1 rfl fun h => V.xa (V.eo h 1 s1)
  ·exact V.z1 rfl fun h => V.xa (V.ed h 0 5 rfl)
  ·exact V.z1 rfl fun h => V.xl (V.ed h 1 6 rfl) (V.ld_mid (xs := [.bool false, Vs A' d c']) h.g.1.2.2.2.1 (by intro j hj; match j, hj with | 0, _ => rfl | 1, _ => rfl) Tryz.underlying35)
  ·exact V.z1 rfl fun h => V.xa (V.eo h 1 s1)
  ·exact V.z1 rfl fun h => V.xa (V.ed h 3 8 rfl)
  ·exact V.z1 rfl fun h => V.xl (V.ed h 4 9 rfl) (V.ld_mid (xs := [.bool false, Vs A m c]) h.g.1.2.2.2.1 (by intro j hj; match j, hj with | 0, _ => rfl | 1, _ => rfl) Tryz.underlying35)
  ·exact V.sn rfl fun f W h => V.x_alloc
  ·exact V.sn rfl fun f W h => V.x_alloc
 ·refine V.fl3 (V.fl_step rfl rfl fun f W h => ?_) (V.fl_step rfl rfl fun f W h => ?_) (V.fl_step rfl rfl fun f W h => ?_)
  ·skip
   exact ⟨Vp g120 0, fun _ _ => V.xa (V.eo h 1 s1), rfl⟩
  ·skip
   exact ⟨Vp g120 0, fun _ _ => V.xa (V.ed h 3 8 rfl), rfl⟩
  ·skip
   exact ⟨.agg #[.bool false, Vs A m c], fun _ hS => V.xl (V.ed h 4 9 rfl) (V.ld_mid (xs := [.bool false, Vs A m c]) hS (by intro j hj; match j, hj with | 0, _ => rfl | 1, _ => rfl) Tryz.underlying35), rfl⟩
 have o_g120 := b_g120.lt
 have o_g121 := b_g121.lt
 have o_bel := hb.size
 intro f127 W128 hE129
 clear h1 h2 hb b_g120 b_g121
 obtain ⟨⟨h1, h2, hb, b_g120, b_g121⟩, hsz⟩ := hE129.g
 obtain ⟨s0, s2⟩ := V.e2 hE129 s0 s2
 have s7 := V.es hE129 2 7 rfl
 have s10 := V.es hE129 5 10 rfl
 obtain ⟨g125, s3, b_g125, l_g125⟩ := V.eq hE129 6 3 rfl
 have m_g125 : w.heap.size ≤ g125 := Nat.le_trans o_bel l_g125
 have q_g120_g125 : g120 ≠ g125 := by omega
 have q_g121_g125 : g121 ≠ g125 := by omega
 obtain ⟨g126, s4, b_g126, l_g126⟩ := V.eq hE129 7 4 rfl
 have m_g126 : w.heap.size ≤ g126 := Nat.le_trans o_bel l_g126
 have q_g120_g126 : g120 ≠ g126 := by omega
 have q_g121_g126 : g121 ≠ g126 := by omega
 have q_g125_g126 : g125 ≠ g126 := V.ep hE129 6 7 3 4 s3 s4
 clear hE129 hsz
 clear o_bel o_g120 o_g121
 refine V.t_skip (k := 8) rfl rfl rfl (by kernel_rfl) (V.blk_far (cs := #[.bool false, Vs A' d c']) b_g120 q_g120_g125) (V.x_store (V.ev_tmp rfl s3) (V.ev_tmp rfl s7) (V.st_row (cs' := #[.bool false, Vs A' d c']) b_g125 (by kernel_rfl) rfl (by kernel_rfl))) ?_
 replace h1 := V.r16_far (cs' := #[.bool false, Vs A' d c']) h1 b_g125 (by simp [noLimb])
 replace h2 := V.r16_far (cs' := #[.bool false, Vs A' d c']) h2 b_g125 (by simp [noLimb])
 replace hb := V.bel_far (cs := #[.bool false, Vs A' d c']) hb m_g125
 replace b_g120 := V.blk_far (cs := #[.bool false, Vs A' d c']) b_g120 q_g120_g125
 replace b_g121 := V.blk_far (cs := #[.bool false, Vs A' d c']) b_g121 q_g121_g125
 replace b_g126 := V.blk_far (cs := #[.bool false, Vs A' d c']) b_g126 (Ne.symm q_g125_g126)
 replace b_g125 := V.blk_same (cs' := #[.bool false, Vs A' d c']) b_g125
 generalize W128.setRow g125 #[.bool false, Vs A' d c'] = W130 at *
 refine V.t_skip (k := 9) rfl rfl rfl (by kernel_rfl) (V.blk_far (cs := #[.bool false, Vs A m c]) b_g120 q_g120_g126) (V.x_store (V.ev_tmp rfl s4) (V.ev_tmp rfl s10) (V.st_row (cs' := #[.bool false, Vs A m c]) b_g126 (by kernel_rfl) rfl (by kernel_rfl))) ?_
 replace h1 := V.r16_far (cs' := #[.bool false, Vs A m c]) h1 b_g126 (by simp [noLimb])
 replace h2 := V.r16_far (cs' := #[.bool false, Vs A m c]) h2 b_g126 (by simp [noLimb])
 replace hb := V.bel_far (cs := #[.bool false, Vs A m c]) hb m_g126
 replace b_g120 := V.blk_far (cs := #[.bool false, Vs A m c]) b_g120 q_g120_g126
 replace b_g121 := V.blk_far (cs := #[.bool false, Vs A m c]) b_g121 q_g121_g126
 replace b_g125 := V.blk_far (cs := #[.bool false, Vs A m c]) b_g125 q_g125_g126
 replace b_g126 := V.blk_same (cs' := #[.bool false, Vs A m c]) b_g126
 generalize W130.setRow g126 #[.bool false, Vs A m c] = W131 at *
 refine V.t_done rfl (V.nx (V.seq (V.seq ?_)))
 clear b_g120
 refine V.reg 2 [V.E (Vp g126 0), V.E (.bool false)] [] (V.i h1 (V.i h2 (V.i hb (V.i b_g121 (V.i b_g125 b_g126))))) ?_ ?_
 ·refine V.ac ?_ (V.ac ?_ V.an)
  ·exact V.z1 rfl fun h => V.xa (V.eo h 4 s4)
  ·exact V.z1 rfl fun h => V.xl (V.ed h 0 11 rfl) (V.lo h.g.1.2.2.2.2.2 rfl)
 intro f132 W133 hE134
 clear h1 h2 hb b_g121 b_g125 b_g126
 obtain ⟨⟨h1, h2, hb, b_g121, b_g125, b_g126⟩, hsz⟩ := hE134.g
 obtain ⟨s0, s2, s3, s4⟩ := V.e4 hE134 s0 s2 s3 s4
 have s12 := V.es hE134 1 12 rfl
 clear hE134 hsz
 refine V.t_done rfl (V.nx ?_)
 refine V.cond_f (V.ev_tmp rfl s12) ?_
 refine V.skip ?_
 refine V.nx (V.seq ?_)
 refine V.reg 4 [V.E (.agg #[.bool false, Vs A' d c']), V.E (.agg #[.bool false, Vs A m c]), V.E (.agg #[.bool false, Vs A' d c', .bool false, Vs A m c]), V.E (.agg #[.bool false, Vs A' d c', .bool false, Vs A m c])] [] (V.i h1 (V.i h2 (V.i hb (V.i b_g121 (V.i b_g125 b_g126))))) ?_ ?_
 ·refine V.ac ?_ (V.ac ?_ (V.ac ?_ (V.ac ?_ V.an)))
  ·exact V.z1 rfl fun h => V.xl (V.eo h 3 s3) (V.lr h.g.1.2.2.2.2.1 Tryz.underlying35)
  ·exact V.z1 rfl fun h => V.xl (V.eo h 4 s4) (V.lr h.g.1.2.2.2.2.2 Tryz.underlying35)
  ·exact V.z1 rfl fun h => V.b2 (V.ed h 0 17 rfl) (V.ed h 1 18 rfl)
  ·exact V.z1 rfl fun h => V.b1 (V.ed h 2 19 rfl)
 intro f135 W136 hE137
 clear h1 h2 hb b_g121 b_g125 b_g126
 obtain ⟨⟨h1, h2, hb, b_g121, b_g125, b_g126⟩, hsz⟩ := hE137.g
 obtain ⟨s0, s2⟩ := V.e2 hE137 s0 s2
 have s20 := V.es hE137 3 20 rfl
 clear hE137 hsz
 refine V.t_st (k := 4) rfl (V.x_store (V.ev_tmp rfl s2) (V.ev_tmp rfl s20) (V.st_row b_g121)) b_g121 fun W138 hs b' => ?_
 replace h1 := hs.r16 h1
 replace h2 := hs.r16 h2
 replace hb := hs.bel hb m_g121
 replace b_g125 := hs.blk b_g125 (Ne.symm q_g121_g125)
 replace b_g126 := hs.blk b_g126 (Ne.symm q_g121_g126)
 replace b_g121 := b'
 clear hs b'
 refine V.t_done rfl (V.nx (V.ret ?_))
 refine V.leave_any (.inl rfl) (V.res_cell rfl rfl s2 (V.lr b_g121 Tryz.underlying82 rfl (by kernel_rfl))) ?_
 exact ⟨A', c', A, c, rfl, h2, h1, hb⟩
theorem recip_n {A A' : Option Addr} {c c' m d : Nat} {w : World} (h1 : R16 w A (Lb.limbs m).length c (Lb.limbs m)) (h2 : R16 w A' (Lb.limbs d).length c' (Lb.limbs d)) (hm : (Lb.limbs m).length ≤ 1024) (hd : (Lb.limbs d).length ≤ 1024) (hd0 : d ≠ 0) :
    Calls Tryz.prog 169 #[.agg #[.bool true, Vs A m c, .bool false, Vs A' d c']] w fun ee w' => ∃ B e B' e', ee = .returned (.agg #[.bool true, Vs B d e, .bool false, Vs B' m e']) ∧ R16 w' B (Lb.limbs d).length e (Lb.limbs d) ∧ R16 w' B' (Lb.limbs m).length e' (Lb.limbs m) ∧ Below w.heap.size w w' := by
 refine V.enter Tryz.func169 rfl rfl (by simp) fun f0 hf => ?_
 have s0 : f0 0 = .agg #[.bool true, Vs A m c, .bool false, Vs A' d c'] := hf 0 (by simp)
 clear hf
 have hb : Below w.heap.size w w := Below.refl _ _
 refine V.seq ?_
 refine V.reg 2 [V.Nb w 82 #[.bool true, Vs A m c, .bool false, Vs A' d c'], V.Nb w 82 #[.bool false, .slice none 0 0, .bool false, .slice none 0 0]] [0, 1] (V.i h1 (V.i h2 hb)) ?_ ?_
 ·refine V.ac ?_ (V.ac ?_ V.an)
  ·exact V.sn rfl fun f W h => V.x_box (V.eo h 0 s0)
  ·exact V.sn rfl fun f W h => V.x_alloc
 have o_bel := hb.size
 intro f141 W142 hE143
 clear h1 h2 hb
 obtain ⟨⟨h1, h2, hb⟩, hsz⟩ := hE143.g
 replace s0 := V.e1 hE143 s0
 obtain ⟨g139, s1, b_g139, l_g139⟩ := V.eq hE143 0 1 rfl
 obtain ⟨g140, s2, b_g140, l_g140⟩ := V.eq hE143 1 2 rfl
 have m_g140 : w.heap.size ≤ g140 := Nat.le_trans o_bel l_g140
 clear hE143 hsz
 clear o_bel
 refine V.t_done rfl (V.nx (V.seq ?_))
 refine V.regF 8 [V.E (Vp g139 0), V.E (Vp g139 2), V.E (.agg #[.bool false, Vs A' d c']), V.E (Vp g139 0), V.E (Vp g139 0), V.E (.agg #[.bool true, Vs A m c]), V.Nb W142 35 #[.bool false, .slice none 0 0], V.Nb W142 35 #[.bool false, .slice none 0 0]] [6, 7] (V.i h1 (V.i h2 (V.i hb (V.i b_g139 b_g140)))) [3, 4, 5] (fun W => Blk W g139 82 #[.bool true, Vs A m c, .bool false, Vs A' d c']) (fun W h => h.1.2.2.2.1) ?_ ?_ ?_
 ·refine V.ac ?_ (V.ac ?_ (V.ac ?_ (V.ac ?_ (V.ac ?_ (V.ac ?_ (V.ac ?_ (V.ac ?_ V.an)))))))
  ·exact V.z1 rfl fun h => V.xa (V.eo h 1 s1)
  ·exact V.z1 rfl fun h => V.xa (V.ed h 0 5 rfl)
  ·exact V.z1 rfl fun h => V.xl (V.ed h 1 6 rfl) (V.ld_mid (xs := [.bool false, Vs A' d c']) h.g.1.2.2.2.1 (by intro j hj; match j, hj with | 0, _ => rfl | 1, _ => rfl) Tryz.underlying35)
  ·exact V.z1 rfl fun h => V.xa (V.eo h 1 s1)
  ·exact V.z1 rfl fun h => V.xa (V.ed h 3 8 rfl)
  ·exact V.z1 rfl fun h => V.xl (V.ed h 4 9 rfl) (V.ld_mid (xs := [.bool true, Vs A m c]) h.g.1.2.2.2.1 (by intro j hj; match j, hj with | 0, _ => rfl | 1, _ => rfl) Tryz.underlying35)
  ·exact V.sn rfl fun f W h => V.x_alloc
  ·exact V.sn rfl fun f W h => V.x_alloc
 ·refine V.fl3 (V.fl_step rfl rfl fun f W h => ?_) (V.fl_step rfl rfl fun f W h => ?_) (V.fl_step rfl rfl fun f W h => ?_)
  ·skip
   exact ⟨Vp g139 0, fun _ _ => V.xa (V.eo h 1 s1), rfl⟩
  ·skip
   exact ⟨Vp g139 0, fun _ _ => V.xa (V.ed h 3 8 rfl), rfl⟩
  ·skip
   exact ⟨.agg #[.bool true, Vs A m c], fun _ hS => V.xl (V.ed h 4 9 rfl) (V.ld_mid (xs := [.bool true, Vs A m c]) hS (by intro j hj; match j, hj with | 0, _ => rfl | 1, _ => rfl) Tryz.underlying35), rfl⟩
 have o_g139 := b_g139.lt
 have o_g140 := b_g140.lt
 have o_bel := hb.size
 intro f146 W147 hE148
 clear h1 h2 hb b_g139 b_g140
 obtain ⟨⟨h1, h2, hb, b_g139, b_g140⟩, hsz⟩ := hE148.g
 obtain ⟨s0, s2⟩ := V.e2 hE148 s0 s2
 have s7 := V.es hE148 2 7 rfl
 have s10 := V.es hE148 5 10 rfl
 obtain ⟨g144, s3, b_g144, l_g144⟩ := V.eq hE148 6 3 rfl
 have m_g144 : w.heap.size ≤ g144 := Nat.le_trans o_bel l_g144
 have q_g139_g144 : g139 ≠ g144 := by omega
 have q_g140_g144 : g140 ≠ g144 := by omega
 obtain ⟨g145, s4, b_g145, l_g145⟩ := V.eq hE148 7 4 rfl
 have m_g145 : w.heap.size ≤ g145 := Nat.le_trans o_bel l_g145
 have q_g139_g145 : g139 ≠ g145 := by omega
 have q_g140_g145 : g140 ≠ g145 := by omega
 have q_g144_g145 : g144 ≠ g145 := V.ep hE148 6 7 3 4 s3 s4
 clear hE148 hsz
 clear o_bel o_g139 o_g140
 refine V.t_skip (k := 8) rfl rfl rfl (by kernel_rfl) (V.blk_far (cs := #[.bool false, Vs A' d c']) b_g139 q_g139_g144) (V.x_store (V.ev_tmp rfl s3) (V.ev_tmp rfl s7) (V.st_row (cs' := #[.bool false, Vs A' d c']) b_g144 (by kernel_rfl) rfl (by kernel_rfl))) ?_
 replace h1 := V.r16_far (cs' := #[.bool false, Vs A' d c']) h1 b_g144 (by simp [noLimb])
 replace h2 := V.r16_far (cs' := #[.bool false, Vs A' d c']) h2 b_g144 (by simp [noLimb])
 replace hb := V.bel_far (cs := #[.bool false, Vs A' d c']) hb m_g144
 replace b_g139 := V.blk_far (cs := #[.bool false, Vs A' d c']) b_g139 q_g139_g144
 replace b_g140 := V.blk_far (cs := #[.bool false, Vs A' d c']) b_g140 q_g140_g144
 replace b_g145 := V.blk_far (cs := #[.bool false, Vs A' d c']) b_g145 (Ne.symm q_g144_g145)
 replace b_g144 := V.blk_same (cs' := #[.bool false, Vs A' d c']) b_g144
 generalize W147.setRow g144 #[.bool false, Vs A' d c'] = W149 at *
 refine V.t_skip (k := 9) rfl rfl rfl (by kernel_rfl) (V.blk_far (cs := #[.bool true, Vs A m c]) b_g139 q_g139_g145) (V.x_store (V.ev_tmp rfl s4) (V.ev_tmp rfl s10) (V.st_row (cs' := #[.bool true, Vs A m c]) b_g145 (by kernel_rfl) rfl (by kernel_rfl))) ?_
 replace h1 := V.r16_far (cs' := #[.bool true, Vs A m c]) h1 b_g145 (by simp [noLimb])
 replace h2 := V.r16_far (cs' := #[.bool true, Vs A m c]) h2 b_g145 (by simp [noLimb])
 replace hb := V.bel_far (cs := #[.bool true, Vs A m c]) hb m_g145
 replace b_g139 := V.blk_far (cs := #[.bool true, Vs A m c]) b_g139 q_g139_g145
 replace b_g140 := V.blk_far (cs := #[.bool true, Vs A m c]) b_g140 q_g140_g145
 replace b_g144 := V.blk_far (cs := #[.bool true, Vs A m c]) b_g144 q_g144_g145
 replace b_g145 := V.blk_same (cs' := #[.bool true, Vs A m c]) b_g145
 generalize W149.setRow g145 #[.bool true, Vs A m c] = W150 at *
 refine V.t_done rfl (V.nx (V.seq (V.seq ?_)))
 clear b_g139
 refine V.reg 2 [V.E (Vp g145 0), V.E (.bool true)] [] (V.i h1 (V.i h2 (V.i hb (V.i b_g140 (V.i b_g144 b_g145))))) ?_ ?_
 ·refine V.ac ?_ (V.ac ?_ V.an)
  ·exact V.z1 rfl fun h => V.xa (V.eo h 4 s4)
  ·exact V.z1 rfl fun h => V.xl (V.ed h 0 11 rfl) (V.lo h.g.1.2.2.2.2.2 rfl)
 intro f151 W152 hE153
 clear h1 h2 hb b_g140 b_g144 b_g145
 obtain ⟨⟨h1, h2, hb, b_g140, b_g144, b_g145⟩, hsz⟩ := hE153.g
 obtain ⟨s0, s2, s3, s4⟩ := V.e4 hE153 s0 s2 s3 s4
 have s12 := V.es hE153 1 12 rfl
 clear hE153 hsz
 refine V.t_done rfl (V.nx ?_)
 refine V.cond_t (V.ev_tmp rfl s12) ?_
 refine V.reg 4 [V.E (.agg #[.bool false, Vs A' d c']), (fun v W => ∃ A154 : Option Addr, ∃ c155 : Nat, v = .agg #[.bool true, Vs A154 d c155] ∧ R16 W A154 ((Lb.limbs d).length) c155 (Lb.limbs d) ∧ (∀ ad, A154 = some ad → w.heap.size ≤ ad.block)), V.E (.agg #[.bool true, Vs A m c]), (fun v W => ∃ A158 : Option Addr, ∃ c159 : Nat, v = .agg #[.bool false, Vs A158 m c159] ∧ R16 W A158 ((Lb.limbs m).length) c159 (Lb.limbs m) ∧ (∀ ad, A158 = some ad → w.heap.size ≤ ad.block))] [] (V.i h1 (V.i h2 (V.i hb (V.i b_g140 (V.i b_g144 b_g145))))) ?_ ?_
 ·refine V.ac ?_ (V.ac ?_ (V.ac ?_ (V.ac ?_ V.an)))
  ·exact V.z1 rfl fun h => V.xl (V.eo h 3 s3) (V.lr h.g.1.2.2.2.2.1 Tryz.underlying35)
  ·refine V.s2 rfl fun f W h => ?_
   refine V.call en49 (V.args1 (V.ed h 0 13 rfl)) (Calls.mono (negated_nn true h.g.1.2.1 (by have := hd; omega) (by rw [Q.limbs_pos_iff]; simp [hd0])) ?_)
   rintro e W' ⟨A154, c155, rfl, k156, p157, hb⟩
   exact ⟨_, rfl, ⟨A154, c155, rfl, k156, (fun ad e => Nat.le_trans h.g.1.2.2.1.size (p157 ad e))⟩, hb⟩
  ·exact V.z1 rfl fun h => V.xl (V.eo h 4 s4) (V.lr h.g.1.2.2.2.2.2 Tryz.underlying35)
  ·refine V.s2 rfl fun f W h => ?_
   refine V.call en49 (V.args1 (V.ed h 2 15 rfl)) (Calls.mono (negated_nn false h.g.1.1 (by have := hm; omega) (by simp)) ?_)
   rintro e W' ⟨A158, c159, rfl, k160, p161, hb⟩
   exact ⟨_, rfl, ⟨A158, c159, rfl, k160, (fun ad e => Nat.le_trans h.g.1.2.2.1.size (p161 ad e))⟩, hb⟩
 intro f162 W163 hE164
 clear h1 h2 hb b_g140 b_g144 b_g145
 obtain ⟨⟨h1, h2, hb, b_g140, b_g144, b_g145⟩, hsz⟩ := hE164.g
 obtain ⟨s0, s2, s3, s4⟩ := V.e4 hE164 s0 s2 s3 s4
 obtain ⟨A154, c155, s14, r165, n166⟩ := V.eq hE164 1 14 rfl
 obtain ⟨A158, c159, s16, r167, n168⟩ := V.eq hE164 3 16 rfl
 clear hE164 hsz
 refine V.t_st (k := 4) rfl (V.x_store (V.ev_tmp rfl s3) (V.ev_tmp rfl s14) (V.st_row b_g144)) b_g144 fun W169 hs b' => ?_
 replace h1 := hs.r16 h1
 replace h2 := hs.r16 h2
 replace hb := hs.bel hb m_g144
 replace b_g140 := hs.blk b_g140 q_g140_g144
 replace b_g145 := hs.blk b_g145 (Ne.symm q_g144_g145)
 replace r165 := hs.r16 r165
 replace r167 := hs.r16 r167
 replace b_g144 := b'
 clear hs b'
 refine V.t_st (k := 5) rfl (V.x_store (V.ev_tmp rfl s4) (V.ev_tmp rfl s16) (V.st_row b_g145)) b_g145 fun W170 hs b' => ?_
 replace h1 := hs.r16 h1
 replace h2 := hs.r16 h2
 replace hb := hs.bel hb m_g145
 replace b_g140 := hs.blk b_g140 q_g140_g145
 replace b_g144 := hs.blk b_g144 q_g144_g145
 replace r165 := hs.r16 r165
 replace r167 := hs.r16 r167
 replace b_g145 := b'
 clear hs b'
 refine V.t_done rfl (V.nx (V.seq ?_))
 refine V.reg 4 [V.E (.agg #[.bool true, Vs A154 d c155]), V.E (.agg #[.bool false, Vs A158 m c159]), V.E (.agg #[.bool true, Vs A154 d c155, .bool false, Vs A158 m c159]), V.E (.agg #[.bool true, Vs A154 d c155, .bool false, Vs A158 m c159])] [] (V.i h1 (V.i h2 (V.i hb (V.i b_g140 (V.i b_g144 (V.i b_g145 (V.i r165 r167))))))) ?_ ?_
 ·refine V.ac ?_ (V.ac ?_ (V.ac ?_ (V.ac ?_ V.an)))
  ·exact V.z1 rfl fun h => V.xl (V.eo h 3 s3) (V.lr h.g.1.2.2.2.2.1 Tryz.underlying35)
  ·exact V.z1 rfl fun h => V.xl (V.eo h 4 s4) (V.lr h.g.1.2.2.2.2.2.1 Tryz.underlying35)
  ·exact V.z1 rfl fun h => V.b2 (V.ed h 0 17 rfl) (V.ed h 1 18 rfl)
  ·exact V.z1 rfl fun h => V.b1 (V.ed h 2 19 rfl)
 intro f171 W172 hE173
 clear h1 h2 hb b_g140 b_g144 b_g145 r165 r167
 obtain ⟨⟨h1, h2, hb, b_g140, b_g144, b_g145, r165, r167⟩, hsz⟩ := hE173.g
 obtain ⟨s0, s2⟩ := V.e2 hE173 s0 s2
 have s20 := V.es hE173 3 20 rfl
 clear hE173 hsz
 refine V.t_st (k := 4) rfl (V.x_store (V.ev_tmp rfl s2) (V.ev_tmp rfl s20) (V.st_row b_g140)) b_g140 fun W174 hs b' => ?_
 replace h1 := hs.r16 h1
 replace h2 := hs.r16 h2
 replace hb := hs.bel hb m_g140
 replace b_g144 := hs.blk b_g144 (Ne.symm q_g140_g144)
 replace b_g145 := hs.blk b_g145 (Ne.symm q_g140_g145)
 replace r165 := hs.r16 r165
 replace r167 := hs.r16 r167
 replace b_g140 := b'
 clear hs b'
 refine V.t_done rfl (V.nx (V.ret ?_))
 refine V.leave_any (.inl rfl) (V.res_cell rfl rfl s2 (V.lr b_g140 Tryz.underlying82 rfl (by kernel_rfl))) ?_
 exact ⟨A154, c155, A158, c159, rfl, r165, r167, hb⟩
theorem reciprocal_q {A A' : Option Addr} {c c' : Nat} {q : Rat} {w : World} (h1 : R16 w A (Lb.limbs (Q.m q)).length c (Lb.limbs (Q.m q))) (h2 : R16 w A' (Lb.limbs q.den).length c' (Lb.limbs q.den)) {k : Nat} (hq : Q.Sz k q ∧ k ≤ 1024 ∧ q ≠ 0) :
    Calls Tryz.prog 169 #[.agg #[.bool (Q.neg q), Vs A (Q.m q) c, .bool false, Vs A' q.den c']] w fun ee w' => ∃ B e B' e', ee = .returned (.agg #[.bool (Q.neg q⁻¹), Vs B (Q.m q⁻¹) e, .bool false, .slice B' (Lb.limbs q⁻¹.den).length e']) ∧ R16 w' B (Lb.limbs (Q.m q⁻¹)).length e (Lb.limbs (Q.m q⁻¹)) ∧ R16 w' B' (Lb.limbs q⁻¹.den).length e' (Lb.limbs q⁻¹.den) ∧ Below w.heap.size w w' := by
  have l1 := Nat.le_trans (Q.len_le hq.1.n) hq.2.1
  have l2 := Nat.le_trans (Q.len_le hq.1.d) hq.2.1
  rcases Q.inv_cases hq.2.2 with ⟨e1, e2, e3, e4⟩ | ⟨e1, e2, e3, e4⟩
  · rw [e1, e2, e3, e4]; exact recip_p h1 h2 l1 l2 q.den_nz
  · rw [e1, e2, e3, e4]; exact recip_n h1 h2 l1 l2 q.den_nz
theorem zero_q {A A' : Option Addr} {c c' : Nat} {q : Rat} {w : World} :
    Calls Tryz.prog 168 #[.agg #[.bool (Q.neg q), Vs A (Q.m q) c, .bool false, Vs A' q.den c']] w fun e w' => e = .returned (.bool (decide (q = 0))) ∧ Below w.heap.size w w' := by
 refine V.enter Tryz.func168 rfl rfl (by simp) fun f0 hf => ?_
 have s0 : f0 0 = .agg #[.bool (Q.neg q), Vs A (Q.m q) c, .bool false, Vs A' q.den c'] := hf 0 (by simp)
 clear hf
 have hb : Below w.heap.size w w := Below.refl _ _
 refine V.seq ?_
 refine V.reg 2 [V.Nb w 82 #[.bool (Q.neg q), Vs A (Q.m q) c, .bool false, Vs A' q.den c'], V.E (.bool false)] [0] hb ?_ ?_
 ·refine V.ac ?_ (V.ac ?_ V.an)
  ·exact V.sn rfl fun f W h => V.x_box (V.eo h 0 s0)
  ·exact V.z1 rfl fun h => V.xs rfl
 have o_bel := hb.size
 intro f176 W177 hE178
 clear hb
 obtain ⟨hb, hsz⟩ := hE178.g
 replace s0 := V.e1 hE178 s0
 obtain ⟨g175, s1, b_g175, l_g175⟩ := V.eq hE178 0 1 rfl
 have s2 := V.es hE178 1 2 rfl
 clear hE178 hsz
 clear o_bel
 refine V.t_done rfl (V.nx (V.seq ?_))
 refine V.reg 7 [V.E (Vp g175 0), V.E (Vp g175 0), V.E (Vp g175 1), V.E (Vs A (Q.m q) c), V.E (.int .i64 ((Lb.limbs (Q.m q)).length : Int)), V.E (.bool (((Lb.limbs (Q.m q)).length : Int) == (0 : Int))), V.E (.bool (((Lb.limbs (Q.m q)).length : Int) == (0 : Int)))] [] (V.i hb b_g175) ?_ ?_
 ·refine V.ac ?_ (V.ac ?_ (V.ac ?_ (V.ac ?_ (V.ac ?_ (V.ac ?_ (V.ac ?_ V.an))))))
  ·exact V.z1 rfl fun h => V.xa (V.eo h 1 s1)
  ·exact V.z1 rfl fun h => V.xa (V.ed h 0 3 rfl)
  ·exact V.z1 rfl fun h => V.xa (V.ed h 1 4 rfl)
  ·exact V.z1 rfl fun h => V.xl (V.ed h 2 5 rfl) (V.lo h.g.1.2 rfl)
  ·exact V.z1 rfl fun h => V.x_len (V.ed h 3 6 rfl)
  ·exact V.z1 rfl fun h => V.xb (V.ed h 4 7 rfl) rfl
  ·exact V.z1 rfl fun h => V.xs (V.ed h 5 8 rfl)
 intro f179 W180 hE181
 clear hb b_g175
 obtain ⟨⟨hb, b_g175⟩, hsz⟩ := hE181.g
 replace s0 := V.e1 hE181 s0
 have s2 := V.es hE181 6 2 rfl
 clear hE181 hsz
 refine V.t_done rfl (V.nx (V.ret ?_))
 refine V.leave_any (.inl rfl) (V.res_tmp rfl rfl s2) ?_
 exact ⟨by rw [Q.num_len], hb⟩
theorem Div_n {A A' B B' : Option Addr} {c c' e e' : Nat} {q r : Rat} {w : World} {k l : Nat} (h1 : R16 w A (Lb.limbs (Q.m q)).length c (Lb.limbs (Q.m q))) (h2 : R16 w A' (Lb.limbs q.den).length c' (Lb.limbs q.den)) (h3 : R16 w B (Lb.limbs (Q.m r)).length e (Lb.limbs (Q.m r))) (h4 : R16 w B' (Lb.limbs r.den).length e' (Lb.limbs r.den)) (hq : Q.Sz k q) (hr : Q.Sz l r) (hk : k ≤ 256) (hl : l ≤ 256) (hs : Q.Sz 256 (q * (r)⁻¹)) (h0 : r ≠ 0) :
    Calls Tryz.prog 133 #[.agg #[.bool (Q.neg q), Vs A (Q.m q) c, .bool false, Vs A' q.den c'], .agg #[.bool (Q.neg r), Vs B (Q.m r) e, .bool false, Vs B' r.den e']] w (TupF w (Q.neg (q * (r)⁻¹)) (Q.m (q * (r)⁻¹)) (q * (r)⁻¹).den) := by
 refine V.enter Tryz.func133 rfl rfl (by simp) fun f0 hf => ?_
 have s0 : f0 0 = .agg #[.bool (Q.neg q), Vs A (Q.m q) c, .bool false, Vs A' q.den c'] := hf 0 (by simp)
 have s1 : f0 1 = .agg #[.bool (Q.neg r), Vs B (Q.m r) e, .bool false, Vs B' r.den e'] := hf 1 (by simp)
 clear hf
 have hb : Below w.heap.size w w := Below.refl _ _
 refine V.seq ?_
 refine V.reg 4 [V.Nb w 39 #[.bool (Q.neg q), Vs A (Q.m q) c, .bool false, Vs A' q.den c'], V.Nb w 39 #[.bool (Q.neg r), Vs B (Q.m r) e, .bool false, Vs B' r.den e'], V.Nb w 39 #[.bool false, .slice none 0 0, .bool false, .slice none 0 0], V.E (.int .i64 0)] [0, 1, 2] (V.i h1 (V.i h2 (V.i h3 (V.i h4 hb)))) ?_ ?_
 ·refine V.ac ?_ (V.ac ?_ (V.ac ?_ (V.ac ?_ V.an)))
  ·exact V.sn rfl fun f W h => V.x_box (V.eo h 0 s0)
  ·exact V.sn rfl fun f W h => V.x_box (V.eo h 1 s1)
  ·exact V.sn rfl fun f W h => V.x_alloc
  ·exact V.z1 rfl fun h => V.xs rfl
 have o_bel := hb.size
 intro f185 W186 hE187
 clear h1 h2 h3 h4 hb
 obtain ⟨⟨h1, h2, h3, h4, hb⟩, hsz⟩ := hE187.g
 obtain ⟨s0, s1⟩ := V.e2 hE187 s0 s1
 obtain ⟨g182, s2, b_g182, l_g182⟩ := V.eq hE187 0 2 rfl
 obtain ⟨g183, s3, b_g183, l_g183⟩ := V.eq hE187 1 3 rfl
 obtain ⟨g184, s4, b_g184, l_g184⟩ := V.eq hE187 2 4 rfl
 have m_g184 : w.heap.size ≤ g184 := Nat.le_trans o_bel l_g184
 have q_g182_g184 : g182 ≠ g184 := V.ep hE187 0 2 2 4 s2 s4
 have q_g183_g184 : g183 ≠ g184 := V.ep hE187 1 2 3 4 s3 s4
 have s5 := V.es hE187 3 5 rfl
 clear hE187 hsz
 clear o_bel
 refine V.t_done rfl (V.nx (V.seq (V.block (V.seq ?_))))
 refine V.reg 6 [V.E (.agg #[.bool (Q.neg q), Vs A (Q.m q) c, .bool false, Vs A' q.den c']), V.E (.agg #[.bool (Q.neg r), Vs B (Q.m r) e, .bool false, Vs B' r.den e']), (fun v W => ∃ g188 : Nat, v = .slice (some ⟨g188, 0, none⟩) 2 2 ∧ Blk W g188 39 #[.bool (Q.neg q), Vs A (Q.m q) c, .bool false, Vs A' q.den c', .bool (Q.neg r), Vs B (Q.m r) e, .bool false, Vs B' r.den e'] ∧ (w.heap.size ≤ g188)), V.E (.bool true), V.E (.bool false), V.E (.bool false)] [] (V.i h1 (V.i h2 (V.i h3 (V.i h4 (V.i hb (V.i b_g182 (V.i b_g183 b_g184))))))) ?_ ?_
 ·refine V.ac ?_ (V.ac ?_ (V.ac ?_ (V.ac ?_ (V.ac ?_ (V.ac ?_ V.an)))))
  ·exact V.z1 rfl fun h => V.xl (V.eo h 2 s2) (V.lr h.g.1.2.2.2.2.2.1 Tryz.underlying39)
  ·exact V.z1 rfl fun h => V.xl (V.eo h 3 s3) (V.lr h.g.1.2.2.2.2.2.2.1 Tryz.underlying39)
  ·refine V.s2 rfl fun f W h => ?_
   exact V.valv (.slice (some ⟨W.heap.size, 0, none⟩) 2 2) (V.c2 (V.ed h 0 7 rfl) (V.ed h 1 8 rfl)) ⟨⟨W.heap.size, rfl, Blk.new W 39 #[.bool (Q.neg q), Vs A (Q.m q) c, .bool false, Vs A' q.den c', .bool (Q.neg r), Vs B (Q.m r) e, .bool false, Vs B' r.den e'], h.g.1.2.2.2.2.1.size⟩, (Below.refl _ _).alloc (Nat.le_refl _) _⟩
  ·refine V.s2 rfl fun f W h => ?_
   obtain ⟨g188, a9, k2_0, p2_0⟩ := V.dp h 2 9 (by kernel_rfl) rfl
   refine V.call en53 (V.args1 (V.ev_tmp rfl a9)) (Calls.mono (valid2_q h.g.1.1 h.g.1.2.1 h.g.1.2.2.1 h.g.1.2.2.2.1 k2_0 (hq.mono hk) (hr.mono hl)) ?_)
   rintro e W' ⟨rfl, hb⟩
   exact ⟨_, rfl, rfl, hb⟩
  ·exact V.z1 rfl fun h => V.x_un (V.ed h 3 10 rfl)
  ·exact V.z1 rfl fun h => V.xs (V.ed h 4 11 rfl)
 intro f189 W190 hE191
 clear h1 h2 h3 h4 hb b_g182 b_g183 b_g184
 obtain ⟨⟨h1, h2, h3, h4, hb, b_g182, b_g183, b_g184⟩, hsz⟩ := hE191.g
 obtain ⟨s0, s1, s2, s3, s4, s5⟩ := V.e6 hE191 s0 s1 s2 s3 s4 s5
 have s6 := V.es hE191 5 6 rfl
 clear hE191 hsz
 refine V.t_done rfl (V.nx ?_)
 refine V.cond_f (V.ev_tmp rfl s6) ?_
 refine V.seq ?_
 refine V.reg 4 [V.E (.agg #[.bool (Q.neg r), Vs B (Q.m r) e, .bool false, Vs B' r.den e']), V.E (.agg #[.bool (Q.neg r), Vs B (Q.m r) e, .bool false, Vs B' r.den e']), V.E (.bool (decide (r = 0))), V.E (.bool (decide (r = 0)))] [] (V.i h1 (V.i h2 (V.i h3 (V.i h4 (V.i hb (V.i b_g182 (V.i b_g183 b_g184))))))) ?_ ?_
 ·refine V.ac ?_ (V.ac ?_ (V.ac ?_ (V.ac ?_ V.an)))
  ·exact V.z1 rfl fun h => V.xl (V.eo h 3 s3) (V.lr h.g.1.2.2.2.2.2.2.1 Tryz.underlying39)
  ·exact V.z1 rfl fun h => V.b1 (V.ed h 0 14 rfl)
  ·refine V.s2 rfl fun f W h => ?_
   refine V.call en168 (V.args1 (V.ed h 1 15 rfl)) (Calls.mono (zero_q) ?_)
   rintro e W' ⟨rfl, hb⟩
   exact ⟨_, rfl, rfl, hb⟩
  ·exact V.z1 rfl fun h => V.xs (V.ed h 2 16 rfl)
 intro f192 W193 hE194
 clear h1 h2 h3 h4 hb b_g182 b_g183 b_g184
 obtain ⟨⟨h1, h2, h3, h4, hb, b_g182, b_g183, b_g184⟩, hsz⟩ := hE194.g
 obtain ⟨s0, s1, s2, s3, s4, s5⟩ := V.e6 hE194 s0 s1 s2 s3 s4 s5
 have s13 := V.es hE194 3 13 rfl
 clear hE194 hsz
 refine V.t_done rfl (V.nx ?_)
 have s13_ : f192 13 = .bool false := s13.trans (congrArg Value.bool (decide_eq_false h0))
 refine V.cond_f (V.ev_tmp rfl s13_) ?_
 refine V.skip ?_
 refine V.bn (V.nx (V.seq ?_))
 refine V.reg 9 [V.E (.agg #[.bool (Q.neg q), Vs A (Q.m q) c, .bool false, Vs A' q.den c']), V.E (.agg #[.bool (Q.neg q), Vs A (Q.m q) c, .bool false, Vs A' q.den c']), V.E (.agg #[.bool (Q.neg r), Vs B (Q.m r) e, .bool false, Vs B' r.den e']), V.E (.agg #[.bool (Q.neg r), Vs B (Q.m r) e, .bool false, Vs B' r.den e']), (fun v W => ∃ A195 : Option Addr, ∃ c196 : Nat, ∃ A197 : Option Addr, ∃ c198 : Nat, v = .agg #[.bool (Q.neg ((r)⁻¹)), .slice A195 (Lb.limbs (Q.m ((r)⁻¹))).length c196, .bool false, .slice A197 (Lb.limbs (((r)⁻¹).den)).length c198] ∧ R16 W A195 ((Lb.limbs (Q.m ((r)⁻¹))).length) c196 (Lb.limbs (Q.m ((r)⁻¹))) ∧ R16 W A197 ((Lb.limbs (((r)⁻¹).den)).length) c198 (Lb.limbs (((r)⁻¹).den))), (fun v W => ∃ A201 : Option Addr, ∃ c202 : Nat, ∃ A203 : Option Addr, ∃ c204 : Nat, v = .agg #[.bool (Q.neg (q * (r)⁻¹)), .slice A201 (Lb.limbs (Q.m (q * (r)⁻¹))).length c202, .bool false, .slice A203 (Lb.limbs ((q * (r)⁻¹).den)).length c204] ∧ R16 W A201 ((Lb.limbs (Q.m (q * (r)⁻¹))).length) c202 (Lb.limbs (Q.m (q * (r)⁻¹))) ∧ R16 W A203 ((Lb.limbs ((q * (r)⁻¹).den)).length) c204 (Lb.limbs ((q * (r)⁻¹).den)) ∧ (∀ ad, A201 = some ad → w.heap.size ≤ ad.block) ∧ (∀ ad, A203 = some ad → w.heap.size ≤ ad.block)), (fun v W => ∃ A209 : Option Addr, ∃ c210 : Nat, ∃ A211 : Option Addr, ∃ c212 : Nat, v = .tuple #[.agg #[.bool (Q.neg (q * (r)⁻¹)), .slice A209 (Lb.limbs (Q.m (q * (r)⁻¹))).length c210, .bool false, .slice A211 (Lb.limbs ((q * (r)⁻¹).den)).length c212], .int .i64 0] ∧ R16 W A209 ((Lb.limbs (Q.m (q * (r)⁻¹))).length) c210 (Lb.limbs (Q.m (q * (r)⁻¹))) ∧ R16 W A211 ((Lb.limbs ((q * (r)⁻¹).den)).length) c212 (Lb.limbs ((q * (r)⁻¹).den)) ∧ (∀ ad, A209 = some ad → w.heap.size ≤ ad.block) ∧ (∀ ad, A211 = some ad → w.heap.size ≤ ad.block)), (fun v W => ∃ A213 : Option Addr, ∃ c214 : Nat, ∃ A215 : Option Addr, ∃ c216 : Nat, v = .agg #[.bool (Q.neg (q * (r)⁻¹)), .slice A213 (Lb.limbs (Q.m (q * (r)⁻¹))).length c214, .bool false, .slice A215 (Lb.limbs ((q * (r)⁻¹).den)).length c216] ∧ R16 W A213 ((Lb.limbs (Q.m (q * (r)⁻¹))).length) c214 (Lb.limbs (Q.m (q * (r)⁻¹))) ∧ R16 W A215 ((Lb.limbs ((q * (r)⁻¹).den)).length) c216 (Lb.limbs ((q * (r)⁻¹).den)) ∧ (∀ ad, A213 = some ad → w.heap.size ≤ ad.block) ∧ (∀ ad, A215 = some ad → w.heap.size ≤ ad.block)), V.E (.int .i64 0)] [] (V.i h1 (V.i h2 (V.i h3 (V.i h4 (V.i hb (V.i b_g182 (V.i b_g183 b_g184))))))) ?_ ?_
 ·refine V.ac ?_ (V.ac ?_ (V.ac ?_ (V.ac ?_ (V.ac ?_ (V.ac ?_ (V.ac ?_ (V.ac ?_ (V.ac ?_ V.an))))))))
  ·exact V.z1 rfl fun h => V.xl (V.eo h 2 s2) (V.lr h.g.1.2.2.2.2.2.1 Tryz.underlying39)
  ·exact V.z1 rfl fun h => V.b1 (V.ed h 0 18 rfl)
  ·exact V.z1 rfl fun h => V.xl (V.eo h 3 s3) (V.lr h.g.1.2.2.2.2.2.2.1 Tryz.underlying39)
  ·exact V.z1 rfl fun h => V.b1 (V.ed h 2 20 rfl)
  ·refine V.s2 rfl fun f W h => ?_
   refine V.call en169 (V.args1 (V.ed h 3 21 rfl)) (Calls.mono (reciprocal_q h.g.1.2.2.1 h.g.1.2.2.2.1 ⟨hr, by omega, h0⟩) ?_)
   rintro e W' ⟨A195, c196, A197, c198, rfl, k199, k200, hb⟩
   exact ⟨_, rfl, ⟨A195, c196, A197, c198, rfl, k199, k200⟩, hb⟩
  ·refine V.s2 rfl fun f W h => ?_
   obtain ⟨A195, c196, A197, c198, a22, k4_0, k4_1⟩ := V.dp h 4 22 (by kernel_rfl) rfl
   refine V.call en64 (V.args2 (V.ed h 1 19 rfl) (V.ev_tmp rfl a22)) (Calls.mono (times_q h.g.1.1 h.g.1.2.1 k4_0 k4_1 hq (hr.inv h0) (by omega)) ?_)
   rintro e W' ⟨A201, c202, A203, c204, rfl, k205, k207, p206, p208, hb⟩
   exact ⟨_, rfl, ⟨A201, c202, A203, c204, rfl, k205, k207, (fun ad e => Nat.le_trans h.g.1.2.2.2.2.1.size (p206 ad e)), (fun ad e => Nat.le_trans h.g.1.2.2.2.2.1.size (p208 ad e))⟩, hb⟩
  ·refine V.s2 rfl fun f W h => ?_
   obtain ⟨A201, c202, A203, c204, a23, k5_0, k5_1, p5_0, p5_1⟩ := V.dp h 5 23 (by kernel_rfl) rfl
   refine V.call en51 (V.args1 (V.ev_tmp rfl a23)) (Calls.mono (told_ok (Q.Sz.fits hs)) ?_)
   rintro e W' ⟨rfl, hb⟩
   exact ⟨_, rfl, ⟨A201, c202, A203, c204, rfl, (k5_0.below hb (Nat.le_refl _)), (k5_1.below hb (Nat.le_refl _)), p5_0, p5_1⟩, hb⟩
  ·refine V.s2 rfl fun f W h => ?_
   obtain ⟨A209, c210, A211, c212, a24, k6_0, k6_1, p6_0, p6_1⟩ := V.dp h 6 24 (by kernel_rfl) rfl
   exact V.v2 (.agg #[.bool (Q.neg (q * (r)⁻¹)), .slice A209 (Lb.limbs (Q.m (q * (r)⁻¹))).length c210, .bool false, .slice A211 (Lb.limbs ((q * (r)⁻¹).den)).length c212]) (V.xe (V.ev_tmp rfl a24)) ⟨A209, c210, A211, c212, rfl, k6_0, k6_1, p6_0, p6_1⟩
  ·refine V.s1 rfl fun f W h => ?_
   obtain ⟨A209, c210, A211, c212, a24, k6_0, k6_1, p6_0, p6_1⟩ := V.dp h 6 24 (by kernel_rfl) rfl
   exact V.xe (V.ev_tmp rfl a24)
 intro f217 W218 hE219
 clear h1 h2 h3 h4 hb b_g182 b_g183 b_g184
 obtain ⟨⟨h1, h2, h3, h4, hb, b_g182, b_g183, b_g184⟩, hsz⟩ := hE219.g
 obtain ⟨s0, s1, s4, s5⟩ := V.e4 hE219 s0 s1 s4 s5
 obtain ⟨A213, c214, A215, c216, s25, r220, r221, n222, n223⟩ := V.eq hE219 7 25 rfl
 have s26 := V.es hE219 8 26 rfl
 clear hE219 hsz
 refine V.t_st (k := 9) rfl (V.x_store (V.ev_tmp rfl s4) (V.ev_tmp rfl s25) (V.st_row b_g184)) b_g184 fun W224 hs b' => ?_
 replace h1 := hs.r16 h1
 replace h2 := hs.r16 h2
 replace h3 := hs.r16 h3
 replace h4 := hs.r16 h4
 replace hb := hs.bel hb m_g184
 replace b_g182 := hs.blk b_g182 q_g182_g184
 replace b_g183 := hs.blk b_g183 q_g183_g184
 replace r220 := hs.r16 r220
 replace r221 := hs.r16 r221
 replace b_g184 := b'
 clear hs b'
 refine V.t_val (k := 10) (v := .int .i64 0) (t := 5) rfl rfl rfl (by kernel_rfl) trivial (V.xs (V.ev_tmp rfl s26)) ?_
 intro f225 e226 u227
 replace s0 : f225 0 = .agg #[.bool (Q.neg q), Vs A (Q.m q) c, .bool false, Vs A' q.den c'] := (u227 0 (by decide)).trans s0
 replace s1 : f225 1 = .agg #[.bool (Q.neg r), Vs B (Q.m r) e, .bool false, Vs B' r.den e'] := (u227 1 (by decide)).trans s1
 replace s4 : f225 4 = Vp g184 0 := (u227 4 (by decide)).trans s4
 replace s25 : f225 25 = .agg #[.bool (Q.neg (q * (r)⁻¹)), .slice A213 (Lb.limbs (Q.m (q * (r)⁻¹))).length c214, .bool false, .slice A215 (Lb.limbs ((q * (r)⁻¹).den)).length c216] := (u227 25 (by decide)).trans s25
 replace s26 : f225 26 = .int .i64 0 := (u227 26 (by decide)).trans s26
 have s5 := e226
 clear u227
 refine V.t_done rfl (V.nx (V.ret ?_))
 refine V.leave_any (.inl rfl) (V.res_cellTmp rfl rfl rfl s4 s5 (V.lr b_g184 Tryz.underlying39 rfl (by kernel_rfl))) ?_
 exact ⟨A213, c214, A215, c216, rfl, r220, r221, n222, n223, hb⟩
theorem cmpZ_cross (q r : Rat) : cmpZ (q.num * r.den) (r.num * q.den) = Q.cmp q r := by
  unfold cmpZ Q.cmp
  simp only [← Q.cross_lt, ← Q.cross_eq]
theorem Cmp_q {A A' B B' : Option Addr} {c c' e e' : Nat} {q r : Rat} {w : World} {k l : Nat} (h1 : R16 w A (Lb.limbs (Q.m q)).length c (Lb.limbs (Q.m q))) (h2 : R16 w A' (Lb.limbs q.den).length c' (Lb.limbs q.den)) (h3 : R16 w B (Lb.limbs (Q.m r)).length e (Lb.limbs (Q.m r))) (h4 : R16 w B' (Lb.limbs r.den).length e' (Lb.limbs r.den)) (hq : Q.Sz k q) (hr : Q.Sz l r) (hk : k ≤ 256) (hl : l ≤ 256) :
    Calls Tryz.prog 19 #[.agg #[.bool (Q.neg q), Vs A (Q.m q) c, .bool false, Vs A' q.den c'], .agg #[.bool (Q.neg r), Vs B (Q.m r) e, .bool false, Vs B' r.den e']] w fun e w' => e = .returned (.int .i64 (Q.cmp q r)) ∧ Below w.heap.size w w' := by
 have k1 : Nv (Q.neg q) (Q.m q) := nv_mk hq.n (by omega) Q.neg_zero
 have k2 : Nv false q.den := nv_mk hq.d (by omega) (fun _ => rfl)
 have k3 : Nv (Q.neg r) (Q.m r) := nv_mk hr.n (by omega) Q.neg_zero
 have k4 : Nv false r.den := nv_mk hr.d (by omega) (fun _ => rfl)
 have k5 : Nv (decide (q.num * r.den < 0)) (q.num * r.den).natAbs := nv_mk (by rw [Int.natAbs_mul, Int.natAbs_natCast]; exact Q.mul_lt hq.n hr.d) (by omega) Q.zneg
 have k6 : Nv (decide (r.num * q.den < 0)) (r.num * q.den).natAbs := nv_mk (by rw [Int.natAbs_mul, Int.natAbs_natCast]; exact Q.mul_lt hr.n hq.d) (by omega) Q.zneg
 refine V.enter Tryz.func19 rfl rfl (by simp) fun f0 hf => ?_
 have s0 : f0 0 = .agg #[.bool (Q.neg q), Vs A (Q.m q) c, .bool false, Vs A' q.den c'] := hf 0 (by simp)
 have s1 : f0 1 = .agg #[.bool (Q.neg r), Vs B (Q.m r) e, .bool false, Vs B' r.den e'] := hf 1 (by simp)
 clear hf
 have hb : Below w.heap.size w w := Below.refl _ _
 refine V.seq ?_
 refine V.reg 3 [V.Nb w 39 #[.bool (Q.neg q), Vs A (Q.m q) c, .bool false, Vs A' q.den c'], V.Nb w 39 #[.bool (Q.neg r), Vs B (Q.m r) e, .bool false, Vs B' r.den e'], V.E (.int .i64 0)] [0, 1] (V.i h1 (V.i h2 (V.i h3 (V.i h4 hb)))) ?_ ?_
 ·refine V.ac ?_ (V.ac ?_ (V.ac ?_ V.an))
  ·exact V.sn rfl fun f W h => V.x_box (V.eo h 0 s0)
  ·exact V.sn rfl fun f W h => V.x_box (V.eo h 1 s1)
  ·exact V.z1 rfl fun h => V.xs rfl
 have o_bel := hb.size
 intro f230 W231 hE232
 clear h1 h2 h3 h4 hb
 obtain ⟨⟨h1, h2, h3, h4, hb⟩, hsz⟩ := hE232.g
 obtain ⟨s0, s1⟩ := V.e2 hE232 s0 s1
 obtain ⟨g228, s2, b_g228, l_g228⟩ := V.eq hE232 0 2 rfl
 obtain ⟨g229, s3, b_g229, l_g229⟩ := V.eq hE232 1 3 rfl
 have s4 := V.es hE232 2 4 rfl
 clear hE232 hsz
 clear o_bel
 refine V.t_done rfl (V.nx (V.seq (V.seq ?_)))
 refine V.reg 5 [V.E (.agg #[.bool (Q.neg q), Vs A (Q.m q) c, .bool false, Vs A' q.den c']), V.E (.agg #[.bool (Q.neg r), Vs B (Q.m r) e, .bool false, Vs B' r.den e']), (fun v W => ∃ g233 : Nat, v = .slice (some ⟨g233, 0, none⟩) 2 2 ∧ Blk W g233 39 #[.bool (Q.neg q), Vs A (Q.m q) c, .bool false, Vs A' q.den c', .bool (Q.neg r), Vs B (Q.m r) e, .bool false, Vs B' r.den e'] ∧ (w.heap.size ≤ g233)), V.E (.bool true), V.E (.bool false)] [] (V.i h1 (V.i h2 (V.i h3 (V.i h4 (V.i hb (V.i b_g228 b_g229)))))) ?_ ?_
 ·refine V.ac ?_ (V.ac ?_ (V.ac ?_ (V.ac ?_ (V.ac ?_ V.an))))
  ·exact V.z1 rfl fun h => V.xl (V.eo h 2 s2) (V.lr h.g.1.2.2.2.2.2.1 Tryz.underlying39)
  ·exact V.z1 rfl fun h => V.xl (V.eo h 3 s3) (V.lr h.g.1.2.2.2.2.2.2 Tryz.underlying39)
  ·refine V.s2 rfl fun f W h => ?_
   exact V.valv (.slice (some ⟨W.heap.size, 0, none⟩) 2 2) (V.c2 (V.ed h 0 5 rfl) (V.ed h 1 6 rfl)) ⟨⟨W.heap.size, rfl, Blk.new W 39 #[.bool (Q.neg q), Vs A (Q.m q) c, .bool false, Vs A' q.den c', .bool (Q.neg r), Vs B (Q.m r) e, .bool false, Vs B' r.den e'], h.g.1.2.2.2.2.1.size⟩, (Below.refl _ _).alloc (Nat.le_refl _) _⟩
  ·refine V.s2 rfl fun f W h => ?_
   obtain ⟨g233, a7, k2_0, p2_0⟩ := V.dp h 2 7 (by kernel_rfl) rfl
   refine V.call en53 (V.args1 (V.ev_tmp rfl a7)) (Calls.mono (valid2_q h.g.1.1 h.g.1.2.1 h.g.1.2.2.1 h.g.1.2.2.2.1 k2_0 (hq.mono hk) (hr.mono hl)) ?_)
   rintro e W' ⟨rfl, hb⟩
   exact ⟨_, rfl, rfl, hb⟩
  ·exact V.z1 rfl fun h => V.x_un (V.ed h 3 8 rfl)
 intro f234 W235 hE236
 clear h1 h2 h3 h4 hb b_g228 b_g229
 obtain ⟨⟨h1, h2, h3, h4, hb, b_g228, b_g229⟩, hsz⟩ := hE236.g
 obtain ⟨s0, s1, s2, s3, s4⟩ := V.e5 hE236 s0 s1 s2 s3 s4
 have s9 := V.es hE236 4 9 rfl
 clear hE236 hsz
 refine V.t_done rfl (V.nx ?_)
 refine V.cond_f (V.ev_tmp rfl s9) ?_
 refine V.skip ?_
 refine V.nx (V.seq ?_)
 refine V.reg 12 [V.E (Vp g228 0), V.E (.agg #[.bool (Q.neg q), Vs A (Q.m q) c]), V.E (Vp g229 2), V.E (.agg #[.bool false, Vs B' r.den e']), (fun v W => ∃ A237 : Option Addr, ∃ c238 : Nat, v = .agg #[.bool (decide (q.num * r.den < 0)), Vs A237 ((q.num * r.den).natAbs) c238] ∧ R16 W A237 ((Lb.limbs ((q.num * r.den).natAbs)).length) c238 (Lb.limbs ((q.num * r.den).natAbs)) ∧ (∀ ad, A237 = some ad → w.heap.size ≤ ad.block)), V.E (Vp g229 0), V.E (.agg #[.bool (Q.neg r), Vs B (Q.m r) e]), V.E (Vp g228 2), V.E (.agg #[.bool false, Vs A' q.den c']), (fun v W => ∃ A241 : Option Addr, ∃ c242 : Nat, v = .agg #[.bool (decide (r.num * q.den < 0)), Vs A241 ((r.num * q.den).natAbs) c242] ∧ R16 W A241 ((Lb.limbs ((r.num * q.den).natAbs)).length) c242 (Lb.limbs ((r.num * q.den).natAbs)) ∧ (∀ ad, A241 = some ad → w.heap.size ≤ ad.block)), V.E (.int .i64 (cmpZ (sgn (decide (q.num * r.den < 0)) ((q.num * r.den).natAbs)) (sgn (decide (r.num * q.den < 0)) ((r.num * q.den).natAbs)))), V.E (.int .i64 (cmpZ (sgn (decide (q.num * r.den < 0)) ((q.num * r.den).natAbs)) (sgn (decide (r.num * q.den < 0)) ((r.num * q.den).natAbs))))] [] (V.i h1 (V.i h2 (V.i h3 (V.i h4 (V.i hb (V.i b_g228 b_g229)))))) ?_ ?_
 ·refine V.ac ?_ (V.ac ?_ (V.ac ?_ (V.ac ?_ (V.ac ?_ (V.ac ?_ (V.ac ?_ (V.ac ?_ (V.ac ?_ (V.ac ?_ (V.ac ?_ (V.ac ?_ V.an)))))))))))
  ·exact V.z1 rfl fun h => V.xa (V.eo h 2 s2)
  ·exact V.z1 rfl fun h => V.xl (V.ed h 0 10 rfl) (V.ld_mid (xs := [.bool (Q.neg q), Vs A (Q.m q) c]) h.g.1.2.2.2.2.2.1 (by intro j hj; match j, hj with | 0, _ => rfl | 1, _ => rfl) Tryz.underlying35)
  ·exact V.z1 rfl fun h => V.xa (V.eo h 3 s3)
  ·exact V.z1 rfl fun h => V.xl (V.ed h 2 12 rfl) (V.ld_mid (xs := [.bool false, Vs B' r.den e']) h.g.1.2.2.2.2.2.2 (by intro j hj; match j, hj with | 0, _ => rfl | 1, _ => rfl) Tryz.underlying35)
  ·refine V.s2 rfl fun f W h => ?_
   refine V.call en56 (V.args2 (V.ed h 1 11 rfl) (V.ed h 3 13 rfl)) (Calls.mono (product_nn (decide (q.num * r.den < 0)) ((q.num * r.den).natAbs) h.g.1.1 h.g.1.2.2.2.1 k1 k4 k5 (by rw [Q.sgn_z, Q.sgn_num]; rfl)) ?_)
   rintro e W' ⟨A237, c238, rfl, k239, p240, hb⟩
   exact ⟨_, rfl, ⟨A237, c238, rfl, k239, (fun ad e => Nat.le_trans h.g.1.2.2.2.2.1.size (p240 ad e))⟩, hb⟩
  ·exact V.z1 rfl fun h => V.xa (V.eo h 3 s3)
  ·exact V.z1 rfl fun h => V.xl (V.ed h 5 15 rfl) (V.ld_mid (xs := [.bool (Q.neg r), Vs B (Q.m r) e]) h.g.1.2.2.2.2.2.2 (by intro j hj; match j, hj with | 0, _ => rfl | 1, _ => rfl) Tryz.underlying35)
  ·exact V.z1 rfl fun h => V.xa (V.eo h 2 s2)
  ·exact V.z1 rfl fun h => V.xl (V.ed h 7 17 rfl) (V.ld_mid (xs := [.bool false, Vs A' q.den c']) h.g.1.2.2.2.2.2.1 (by intro j hj; match j, hj with | 0, _ => rfl | 1, _ => rfl) Tryz.underlying35)
  ·refine V.s2 rfl fun f W h => ?_
   refine V.call en56 (V.args2 (V.ed h 6 16 rfl) (V.ed h 8 18 rfl)) (Calls.mono (product_nn (decide (r.num * q.den < 0)) ((r.num * q.den).natAbs) h.g.1.2.2.1 h.g.1.2.1 k3 k2 k6 (by rw [Q.sgn_z, Q.sgn_num]; rfl)) ?_)
   rintro e W' ⟨A241, c242, rfl, k243, p244, hb⟩
   exact ⟨_, rfl, ⟨A241, c242, rfl, k243, (fun ad e => Nat.le_trans h.g.1.2.2.2.2.1.size (p244 ad e))⟩, hb⟩
  ·refine V.s2 rfl fun f W h => ?_
   obtain ⟨A237, c238, a14, k4_0, p4_0⟩ := V.dp h 4 14 (by kernel_rfl) rfl
   obtain ⟨A241, c242, a19, k9_0, p9_0⟩ := V.dp h 9 19 (by kernel_rfl) rfl
   refine V.call en55 (V.args2 (V.ev_tmp rfl a14) (V.ev_tmp rfl a19)) (Calls.mono ((Cmp_nn k4_0 k9_0 k5 k6)) ?_)
   rintro e W' ⟨rfl, hb⟩
   exact ⟨_, rfl, rfl, hb⟩
  ·exact V.z1 rfl fun h => V.xs (V.ed h 10 20 rfl)
 intro f245 W246 hE247
 clear h1 h2 h3 h4 hb b_g228 b_g229
 obtain ⟨⟨h1, h2, h3, h4, hb, b_g228, b_g229⟩, hsz⟩ := hE247.g
 obtain ⟨s0, s1⟩ := V.e2 hE247 s0 s1
 have s4 := V.es hE247 11 4 rfl
 clear hE247 hsz
 refine V.t_done rfl (V.nx (V.ret ?_))
 refine V.leave_any (.inl rfl) (V.res_tmp rfl rfl s4) ?_
 exact ⟨by rw [Q.sgn_z, Q.sgn_z, cmpZ_cross], hb⟩
end Go.Proofs.YtjbcalbbhomkjaaGreat
