import Derived.Test.YtjbcalbbhomkjaaGreatEFr3
import Derived.Test.YtjbcalbbhomkjaaGreatECmp2
set_option maxRecDepth 20000
set_option maxHeartbeats 2000000
namespace Go.Proofs.YtjbcalbbhomkjaaGreat
open Go.RowKit
attribute [local irreducible] RI.frame RI.act RI.Ob RI.Tail RI.out V.Wp V.Fn Oper.wp
theorem en49 : En 49 := en_ Tryz.func49
theorem en51 : En 51 := en_ Tryz.func51
theorem en53 : En 53 := en_ Tryz.func53
theorem en54 : En 54 := en_ Tryz.func54
theorem en55 : En 55 := en_ Tryz.func55
theorem en64 : En 64 := en_ Tryz.func64
theorem en168 : En 168 := en_ Tryz.func168
theorem en169 : En 169 := en_ Tryz.func169
theorem plus_r {A A' B B' : Option Addr} {c c' e e' : Nat} {q r : Rat} {w : World} {k l : Nat} {n1 : Bool} {m1 d1 : Nat} (h1 : R16 w A (Lb.limbs (Q.m q)).length c (Lb.limbs (Q.m q))) (h2 : R16 w A' (Lb.limbs q.den).length c' (Lb.limbs q.den)) (h3 : R16 w B (Lb.limbs m1).length e (Lb.limbs m1)) (h4 : R16 w B' (Lb.limbs d1).length e' (Lb.limbs d1))
    (hq : Q.Sz k q) (hr : Q.Sz l r) (hk : k + l + 1 ≤ 1024) (e1 : Q.neg r = n1) (e2 : Q.m r = m1) (e3 : r.den = d1) :
    Calls Tryz.prog 54 #[.agg #[.bool (Q.neg q), Vs A (Q.m q) c, .bool false, Vs A' q.den c'], .agg #[.bool n1, Vs B m1 e, .bool false, Vs B' d1 e']] w (RetF w (Q.neg (q + r)) (Q.m (q + r)) (q + r).den) := by
  subst e1; subst e2; subst e3
  exact plus_q h1 h2 h3 h4 hq hr hk
theorem Add_q {A A' B B' : Option Addr} {c c' e e' : Nat} {q r : Rat} {w : World} {k l : Nat} (h1 : R16 w A (Lb.limbs (Q.m q)).length c (Lb.limbs (Q.m q))) (h2 : R16 w A' (Lb.limbs q.den).length c' (Lb.limbs q.den)) (h3 : R16 w B (Lb.limbs (Q.m r)).length e (Lb.limbs (Q.m r))) (h4 : R16 w B' (Lb.limbs r.den).length e' (Lb.limbs r.den)) (hq : Q.Sz k q) (hr : Q.Sz l r) (hk : k ≤ 256) (hl : l ≤ 256) (hs : Q.Sz 256 (q + r)) :
    Calls Tryz.prog 60 #[.agg #[.bool (Q.neg q), Vs A (Q.m q) c, .bool false, Vs A' q.den c'], .agg #[.bool (Q.neg r), Vs B (Q.m r) e, .bool false, Vs B' r.den e']] w (TupF w (Q.neg (q + r)) (Q.m (q + r)) (q + r).den) := by
 refine V.nt Tryz.func60 rfl rfl fun f0 hf => ?_
 have s0 : f0 0 = .agg #[.bool (Q.neg q), Vs A (Q.m q) c, .bool false, Vs A' q.den c'] := hf 0 (by simp)
 have s1 : f0 1 = .agg #[.bool (Q.neg r), Vs B (Q.m r) e, .bool false, Vs B' r.den e'] := hf 1 (by simp)
 clear hf
 have hb := Below.refl w.heap.size w
 refine V.seq ?_
 refine V.reg 4 [V.Nb w 39 #[.bool (Q.neg q), Vs A (Q.m q) c, .bool false, Vs A' q.den c'], V.Nb w 39 #[.bool (Q.neg r), Vs B (Q.m r) e, .bool false, Vs B' r.den e'], V.Nb w 39 #[.bool false, .slice none 0 0, .bool false, .slice none 0 0], V.E (.int .i64 0)] [0, 1, 2] (V.i h1 (V.i h2 (V.i h3 (V.i h4 hb)))) ?_ ?_
 ·refine V.a4 ?_ ?_ ?_ ?_
  ·exact V.sn rfl fun f W h => V.x_box (V.eo h 0 s0)
  ·exact V.sn rfl fun f W h => V.x_box (V.eo h 1 s1)
  ·exact V.sn rfl fun f W h => V.x_alloc
  ·exact V.z1 rfl fun h => V.xs rfl
 have o_bel := hb.size
 intro f4 W5 e6
 clear h1 h2 h3 h4 hb
 obtain ⟨⟨h1, h2, h3, h4, hb⟩, z_⟩ := e6.g
 obtain ⟨s0, s1⟩ := V.e2 e6 s0 s1
 obtain ⟨g1, s2, bg1, lg1⟩ := V.eq e6 0 2 rfl
 obtain ⟨g2, s3, bg2, lg2⟩ := V.eq e6 1 3 rfl
 obtain ⟨g3, s4, bg3, lg3⟩ := V.eq e6 2 4 rfl
 have mg3 := Nat.le_trans o_bel lg3
 have q1_3 : g1 ≠ g3 := V.ep e6 0 2 2 4 s2 s4
 have q2_3 : g2 ≠ g3 := V.ep e6 1 2 3 4 s3 s4
 have s5 := V.es e6 3 5 rfl
 clear e6 z_
 clear o_bel
 refine V.t_done rfl (V.nx (V.seq (V.seq ?_)))
 refine V.reg 5 [V.E (.agg #[.bool (Q.neg q), Vs A (Q.m q) c, .bool false, Vs A' q.den c']), V.E (.agg #[.bool (Q.neg r), Vs B (Q.m r) e, .bool false, Vs B' r.den e']), (fun v W => ∃ g7 : Nat, v = .slice (some ⟨g7, 0, none⟩) 2 2 ∧ Blk W g7 39 #[.bool (Q.neg q), Vs A (Q.m q) c, .bool false, Vs A' q.den c', .bool (Q.neg r), Vs B (Q.m r) e, .bool false, Vs B' r.den e'] ∧ (w.heap.size ≤ g7)), V.E (.bool true), V.E (.bool false)] [] (V.i h1 (V.i h2 (V.i h3 (V.i h4 (V.i hb (V.i bg1 (V.i bg2 bg3))))))) ?_ ?_
 ·refine V.a5 ?_ ?_ ?_ ?_ ?_
  ·exact V.z1 rfl fun h => V.xl (V.eo h 2 s2) (V.lr h.g.1.2.2.2.2.2.1 Tryz.underlying39)
  ·exact V.z1 rfl fun h => V.xl (V.eo h 3 s3) (V.lr h.g.1.2.2.2.2.2.2.1 Tryz.underlying39)
  ·refine V.s2 rfl fun f W h => ?_
   exact V.valv (.slice (some ⟨W.heap.size, 0, none⟩) 2 2) (V.c2 (V.ed h 0 6 rfl) (V.ed h 1 7 rfl)) ⟨⟨W.heap.size, rfl, Blk.new W 39 #[.bool (Q.neg q), Vs A (Q.m q) c, .bool false, Vs A' q.den c', .bool (Q.neg r), Vs B (Q.m r) e, .bool false, Vs B' r.den e'], h.g.1.2.2.2.2.1.size⟩, (Below.refl _ _).alloc (Nat.le_refl _) _⟩
  ·refine V.s2 rfl fun f W h => ?_
   obtain ⟨g7, a8, k2_0, p2_0⟩ := V.dp h 2 8 (by kernel_rfl) rfl
   refine V.call en53 (V.args1 (V.ev_tmp rfl a8)) (Calls.mono (valid2_q h.g.1.1 h.g.1.2.1 h.g.1.2.2.1 h.g.1.2.2.2.1 k2_0 (hq.mono hk) (hr.mono hl)) ?_)
   rintro e W' ⟨rfl, hb⟩
   exact ⟨_, rfl, rfl, hb⟩
  ·exact V.z1 rfl fun h => V.x_un (V.ed h 3 9 rfl)
 intro f8 W9 e10
 clear h1 h2 h3 h4 hb bg1 bg2 bg3
 obtain ⟨⟨h1, h2, h3, h4, hb, bg1, bg2, bg3⟩, z_⟩ := e10.g
 obtain ⟨s0, s1, s2, s3, s4, s5⟩ := V.e6 e10 s0 s1 s2 s3 s4 s5
 have s10 := V.es e10 4 10 rfl
 clear e10 z_
 refine V.t_done rfl (V.nx ?_)
 refine V.cond_f (V.ev_tmp rfl s10) ?_
 refine V.skip ?_
 refine V.nx (V.seq ?_)
 refine V.reg 8 [V.E (.agg #[.bool (Q.neg q), Vs A (Q.m q) c, .bool false, Vs A' q.den c']), V.E (.agg #[.bool (Q.neg q), Vs A (Q.m q) c, .bool false, Vs A' q.den c']), V.E (.agg #[.bool (Q.neg r), Vs B (Q.m r) e, .bool false, Vs B' r.den e']), V.E (.agg #[.bool (Q.neg r), Vs B (Q.m r) e, .bool false, Vs B' r.den e']), (fun v W => ∃ A11 : Option Addr, ∃ c12 : Nat, ∃ A13 : Option Addr, ∃ c14 : Nat, v = .agg #[.bool (Q.neg (q + r)), Vs A11 (Q.m (q + r)) c12, .bool false, Vs A13 ((q + r).den) c14] ∧ R16 W A11 ((Lb.limbs (Q.m (q + r))).length) c12 (Lb.limbs (Q.m (q + r))) ∧ R16 W A13 ((Lb.limbs ((q + r).den)).length) c14 (Lb.limbs ((q + r).den)) ∧ (∀ ad, A11 = some ad → w.heap.size ≤ ad.block) ∧ (∀ ad, A13 = some ad → w.heap.size ≤ ad.block)), (fun v W => ∃ A19 : Option Addr, ∃ c20 : Nat, ∃ A21 : Option Addr, ∃ c22 : Nat, v = .tuple #[.agg #[.bool (Q.neg (q + r)), Vs A19 (Q.m (q + r)) c20, .bool false, Vs A21 ((q + r).den) c22], .int .i64 0] ∧ R16 W A19 ((Lb.limbs (Q.m (q + r))).length) c20 (Lb.limbs (Q.m (q + r))) ∧ R16 W A21 ((Lb.limbs ((q + r).den)).length) c22 (Lb.limbs ((q + r).den)) ∧ (∀ ad, A19 = some ad → w.heap.size ≤ ad.block) ∧ (∀ ad, A21 = some ad → w.heap.size ≤ ad.block)), (fun v W => ∃ A23 : Option Addr, ∃ c24 : Nat, ∃ A25 : Option Addr, ∃ c26 : Nat, v = .agg #[.bool (Q.neg (q + r)), Vs A23 (Q.m (q + r)) c24, .bool false, Vs A25 ((q + r).den) c26] ∧ R16 W A23 ((Lb.limbs (Q.m (q + r))).length) c24 (Lb.limbs (Q.m (q + r))) ∧ R16 W A25 ((Lb.limbs ((q + r).den)).length) c26 (Lb.limbs ((q + r).den)) ∧ (∀ ad, A23 = some ad → w.heap.size ≤ ad.block) ∧ (∀ ad, A25 = some ad → w.heap.size ≤ ad.block)), V.E (.int .i64 0)] [] (V.i h1 (V.i h2 (V.i h3 (V.i h4 (V.i hb (V.i bg1 (V.i bg2 bg3))))))) ?_ ?_
 ·refine V.a8 ?_ ?_ ?_ ?_ ?_ ?_ ?_ ?_
  ·exact V.z1 rfl fun h => V.xl (V.eo h 2 s2) (V.lr h.g.1.2.2.2.2.2.1 Tryz.underlying39)
  ·exact V.z1 rfl fun h => V.b1 (V.ed h 0 12 rfl)
  ·exact V.z1 rfl fun h => V.xl (V.eo h 3 s3) (V.lr h.g.1.2.2.2.2.2.2.1 Tryz.underlying39)
  ·exact V.z1 rfl fun h => V.b1 (V.ed h 2 14 rfl)
  ·refine V.s2 rfl fun f W h => ?_
   refine V.call en54 (V.args2 (V.ed h 1 13 rfl) (V.ed h 3 15 rfl)) (Calls.mono (plus_r h.g.1.1 h.g.1.2.1 h.g.1.2.2.1 h.g.1.2.2.2.1 hq hr (by omega) rfl rfl rfl) ?_)
   rintro e W' ⟨A11, c12, A13, c14, rfl, k15, k17, p16, p18, hb⟩
   exact ⟨_, rfl, ⟨A11, c12, A13, c14, rfl, k15, k17, (fun ad e => Nat.le_trans h.g.1.2.2.2.2.1.size (p16 ad e)), (fun ad e => Nat.le_trans h.g.1.2.2.2.2.1.size (p18 ad e))⟩, hb⟩
  ·refine V.s2 rfl fun f W h => ?_
   obtain ⟨A11, c12, A13, c14, a16, k4_0, k4_1, p4_0, p4_1⟩ := V.dp h 4 16 (by kernel_rfl) rfl
   refine V.call en51 (V.args1 (V.ev_tmp rfl a16)) (Calls.mono (told_ok (Q.Sz.fits hs)) ?_)
   rintro e W' ⟨rfl, hb⟩
   exact ⟨_, rfl, ⟨A11, c12, A13, c14, rfl, (k4_0.below hb (Nat.le_refl _)), (k4_1.below hb (Nat.le_refl _)), p4_0, p4_1⟩, hb⟩
  ·refine V.s2 rfl fun f W h => ?_
   obtain ⟨A19, c20, A21, c22, a17, k5_0, k5_1, p5_0, p5_1⟩ := V.dp h 5 17 (by kernel_rfl) rfl
   exact V.v2 (.agg #[.bool (Q.neg (q + r)), Vs A19 (Q.m (q + r)) c20, .bool false, Vs A21 ((q + r).den) c22]) (V.xe (V.ev_tmp rfl a17)) ⟨A19, c20, A21, c22, rfl, k5_0, k5_1, p5_0, p5_1⟩
  ·refine V.s1 rfl fun f W h => ?_
   obtain ⟨A19, c20, A21, c22, a17, k5_0, k5_1, p5_0, p5_1⟩ := V.dp h 5 17 (by kernel_rfl) rfl
   exact V.xe (V.ev_tmp rfl a17)
 intro f27 W28 e29
 clear h1 h2 h3 h4 hb bg1 bg2 bg3
 obtain ⟨⟨h1, h2, h3, h4, hb, bg1, bg2, bg3⟩, z_⟩ := e29.g
 obtain ⟨s0, s1, s4, s5⟩ := V.e4 e29 s0 s1 s4 s5
 obtain ⟨A23, c24, A25, c26, s18, r30, r31, n32, n33⟩ := V.eq e29 6 18 rfl
 have s19 := V.es e29 7 19 rfl
 clear e29 z_
 refine V.tsr (k := 8) rfl s4 s18 bg3 fun W34 hs b' => ?_
 replace h1 := hs.r16 h1
 replace h2 := hs.r16 h2
 replace h3 := hs.r16 h3
 replace h4 := hs.r16 h4
 replace hb := hs.bel hb mg3
 replace bg1 := hs.blk bg1 q1_3
 replace bg2 := hs.blk bg2 q2_3
 replace r30 := hs.r16 r30
 replace r31 := hs.r16 r31
 replace bg3 := b'
 clear hs b'
 refine V.t_val (k := 9) (v := .int .i64 0) (t := 5) rfl rfl rfl (by kernel_rfl) trivial (V.xs (V.ev_tmp rfl s19)) ?_
 intro f35 e36 u37
 replace s0 : f35 0 = .agg #[.bool (Q.neg q), Vs A (Q.m q) c, .bool false, Vs A' q.den c'] := (u37 0 (by decide)).trans s0
 replace s1 : f35 1 = .agg #[.bool (Q.neg r), Vs B (Q.m r) e, .bool false, Vs B' r.den e'] := (u37 1 (by decide)).trans s1
 replace s4 : f35 4 = Vp g3 0 := (u37 4 (by decide)).trans s4
 replace s18 : f35 18 = .agg #[.bool (Q.neg (q + r)), Vs A23 (Q.m (q + r)) c24, .bool false, Vs A25 ((q + r).den) c26] := (u37 18 (by decide)).trans s18
 replace s19 : f35 19 = .int .i64 0 := (u37 19 (by decide)).trans s19
 have s5 := e36
 clear u37
 refine V.t_done rfl (V.nx (V.ret ?_))
 refine V.leave_any (.inl rfl) (V.res_cellTmp rfl rfl rfl s4 s5 (V.lr bg3 Tryz.underlying39 rfl (by kernel_rfl))) ?_
 exact ⟨A23, c24, A25, c26, rfl, r30, r31, n32, n33, hb⟩
theorem Mul_q {A A' B B' : Option Addr} {c c' e e' : Nat} {q r : Rat} {w : World} {k l : Nat} (h1 : R16 w A (Lb.limbs (Q.m q)).length c (Lb.limbs (Q.m q))) (h2 : R16 w A' (Lb.limbs q.den).length c' (Lb.limbs q.den)) (h3 : R16 w B (Lb.limbs (Q.m r)).length e (Lb.limbs (Q.m r))) (h4 : R16 w B' (Lb.limbs r.den).length e' (Lb.limbs r.den)) (hq : Q.Sz k q) (hr : Q.Sz l r) (hk : k ≤ 256) (hl : l ≤ 256) (hs : Q.Sz 256 (q * r)) :
    Calls Tryz.prog 28 #[.agg #[.bool (Q.neg q), Vs A (Q.m q) c, .bool false, Vs A' q.den c'], .agg #[.bool (Q.neg r), Vs B (Q.m r) e, .bool false, Vs B' r.den e']] w (TupF w (Q.neg (q * r)) (Q.m (q * r)) (q * r).den) := by
 refine V.nt Tryz.func28 rfl rfl fun f0 hf => ?_
 have s0 : f0 0 = .agg #[.bool (Q.neg q), Vs A (Q.m q) c, .bool false, Vs A' q.den c'] := hf 0 (by simp)
 have s1 : f0 1 = .agg #[.bool (Q.neg r), Vs B (Q.m r) e, .bool false, Vs B' r.den e'] := hf 1 (by simp)
 clear hf
 have hb := Below.refl w.heap.size w
 refine V.seq ?_
 refine V.reg 4 [V.Nb w 39 #[.bool (Q.neg q), Vs A (Q.m q) c, .bool false, Vs A' q.den c'], V.Nb w 39 #[.bool (Q.neg r), Vs B (Q.m r) e, .bool false, Vs B' r.den e'], V.Nb w 39 #[.bool false, .slice none 0 0, .bool false, .slice none 0 0], V.E (.int .i64 0)] [0, 1, 2] (V.i h1 (V.i h2 (V.i h3 (V.i h4 hb)))) ?_ ?_
 ·refine V.a4 ?_ ?_ ?_ ?_
  ·exact V.sn rfl fun f W h => V.x_box (V.eo h 0 s0)
  ·exact V.sn rfl fun f W h => V.x_box (V.eo h 1 s1)
  ·exact V.sn rfl fun f W h => V.x_alloc
  ·exact V.z1 rfl fun h => V.xs rfl
 have o_bel := hb.size
 intro f41 W42 e43
 clear h1 h2 h3 h4 hb
 obtain ⟨⟨h1, h2, h3, h4, hb⟩, z_⟩ := e43.g
 obtain ⟨s0, s1⟩ := V.e2 e43 s0 s1
 obtain ⟨g38, s2, bg38, lg38⟩ := V.eq e43 0 2 rfl
 obtain ⟨g39, s3, bg39, lg39⟩ := V.eq e43 1 3 rfl
 obtain ⟨g40, s4, bg40, lg40⟩ := V.eq e43 2 4 rfl
 have mg40 := Nat.le_trans o_bel lg40
 have q38_40 : g38 ≠ g40 := V.ep e43 0 2 2 4 s2 s4
 have q39_40 : g39 ≠ g40 := V.ep e43 1 2 3 4 s3 s4
 have s5 := V.es e43 3 5 rfl
 clear e43 z_
 clear o_bel
 refine V.t_done rfl (V.nx (V.seq (V.seq ?_)))
 refine V.reg 5 [V.E (.agg #[.bool (Q.neg q), Vs A (Q.m q) c, .bool false, Vs A' q.den c']), V.E (.agg #[.bool (Q.neg r), Vs B (Q.m r) e, .bool false, Vs B' r.den e']), (fun v W => ∃ g44 : Nat, v = .slice (some ⟨g44, 0, none⟩) 2 2 ∧ Blk W g44 39 #[.bool (Q.neg q), Vs A (Q.m q) c, .bool false, Vs A' q.den c', .bool (Q.neg r), Vs B (Q.m r) e, .bool false, Vs B' r.den e'] ∧ (w.heap.size ≤ g44)), V.E (.bool true), V.E (.bool false)] [] (V.i h1 (V.i h2 (V.i h3 (V.i h4 (V.i hb (V.i bg38 (V.i bg39 bg40))))))) ?_ ?_
 ·refine V.a5 ?_ ?_ ?_ ?_ ?_
  ·exact V.z1 rfl fun h => V.xl (V.eo h 2 s2) (V.lr h.g.1.2.2.2.2.2.1 Tryz.underlying39)
  ·exact V.z1 rfl fun h => V.xl (V.eo h 3 s3) (V.lr h.g.1.2.2.2.2.2.2.1 Tryz.underlying39)
  ·refine V.s2 rfl fun f W h => ?_
   exact V.valv (.slice (some ⟨W.heap.size, 0, none⟩) 2 2) (V.c2 (V.ed h 0 6 rfl) (V.ed h 1 7 rfl)) ⟨⟨W.heap.size, rfl, Blk.new W 39 #[.bool (Q.neg q), Vs A (Q.m q) c, .bool false, Vs A' q.den c', .bool (Q.neg r), Vs B (Q.m r) e, .bool false, Vs B' r.den e'], h.g.1.2.2.2.2.1.size⟩, (Below.refl _ _).alloc (Nat.le_refl _) _⟩
  ·refine V.s2 rfl fun f W h => ?_
   obtain ⟨g44, a8, k2_0, p2_0⟩ := V.dp h 2 8 (by kernel_rfl) rfl
   refine V.call en53 (V.args1 (V.ev_tmp rfl a8)) (Calls.mono (valid2_q h.g.1.1 h.g.1.2.1 h.g.1.2.2.1 h.g.1.2.2.2.1 k2_0 (hq.mono hk) (hr.mono hl)) ?_)
   rintro e W' ⟨rfl, hb⟩
   exact ⟨_, rfl, rfl, hb⟩
  ·exact V.z1 rfl fun h => V.x_un (V.ed h 3 9 rfl)
 intro f45 W46 e47
 clear h1 h2 h3 h4 hb bg38 bg39 bg40
 obtain ⟨⟨h1, h2, h3, h4, hb, bg38, bg39, bg40⟩, z_⟩ := e47.g
 obtain ⟨s0, s1, s2, s3, s4, s5⟩ := V.e6 e47 s0 s1 s2 s3 s4 s5
 have s10 := V.es e47 4 10 rfl
 clear e47 z_
 refine V.t_done rfl (V.nx ?_)
 refine V.cond_f (V.ev_tmp rfl s10) ?_
 refine V.skip ?_
 refine V.nx (V.seq ?_)
 refine V.reg 8 [V.E (.agg #[.bool (Q.neg q), Vs A (Q.m q) c, .bool false, Vs A' q.den c']), V.E (.agg #[.bool (Q.neg q), Vs A (Q.m q) c, .bool false, Vs A' q.den c']), V.E (.agg #[.bool (Q.neg r), Vs B (Q.m r) e, .bool false, Vs B' r.den e']), V.E (.agg #[.bool (Q.neg r), Vs B (Q.m r) e, .bool false, Vs B' r.den e']), (fun v W => ∃ A48 : Option Addr, ∃ c49 : Nat, ∃ A50 : Option Addr, ∃ c51 : Nat, v = .agg #[.bool (Q.neg (q * r)), Vs A48 (Q.m (q * r)) c49, .bool false, Vs A50 ((q * r).den) c51] ∧ R16 W A48 ((Lb.limbs (Q.m (q * r))).length) c49 (Lb.limbs (Q.m (q * r))) ∧ R16 W A50 ((Lb.limbs ((q * r).den)).length) c51 (Lb.limbs ((q * r).den)) ∧ (∀ ad, A48 = some ad → w.heap.size ≤ ad.block) ∧ (∀ ad, A50 = some ad → w.heap.size ≤ ad.block)), (fun v W => ∃ A56 : Option Addr, ∃ c57 : Nat, ∃ A58 : Option Addr, ∃ c59 : Nat, v = .tuple #[.agg #[.bool (Q.neg (q * r)), Vs A56 (Q.m (q * r)) c57, .bool false, Vs A58 ((q * r).den) c59], .int .i64 0] ∧ R16 W A56 ((Lb.limbs (Q.m (q * r))).length) c57 (Lb.limbs (Q.m (q * r))) ∧ R16 W A58 ((Lb.limbs ((q * r).den)).length) c59 (Lb.limbs ((q * r).den)) ∧ (∀ ad, A56 = some ad → w.heap.size ≤ ad.block) ∧ (∀ ad, A58 = some ad → w.heap.size ≤ ad.block)), (fun v W => ∃ A60 : Option Addr, ∃ c61 : Nat, ∃ A62 : Option Addr, ∃ c63 : Nat, v = .agg #[.bool (Q.neg (q * r)), Vs A60 (Q.m (q * r)) c61, .bool false, Vs A62 ((q * r).den) c63] ∧ R16 W A60 ((Lb.limbs (Q.m (q * r))).length) c61 (Lb.limbs (Q.m (q * r))) ∧ R16 W A62 ((Lb.limbs ((q * r).den)).length) c63 (Lb.limbs ((q * r).den)) ∧ (∀ ad, A60 = some ad → w.heap.size ≤ ad.block) ∧ (∀ ad, A62 = some ad → w.heap.size ≤ ad.block)), V.E (.int .i64 0)] [] (V.i h1 (V.i h2 (V.i h3 (V.i h4 (V.i hb (V.i bg38 (V.i bg39 bg40))))))) ?_ ?_
 ·refine V.a8 ?_ ?_ ?_ ?_ ?_ ?_ ?_ ?_
  ·exact V.z1 rfl fun h => V.xl (V.eo h 2 s2) (V.lr h.g.1.2.2.2.2.2.1 Tryz.underlying39)
  ·exact V.z1 rfl fun h => V.b1 (V.ed h 0 12 rfl)
  ·exact V.z1 rfl fun h => V.xl (V.eo h 3 s3) (V.lr h.g.1.2.2.2.2.2.2.1 Tryz.underlying39)
  ·exact V.z1 rfl fun h => V.b1 (V.ed h 2 14 rfl)
  ·refine V.s2 rfl fun f W h => ?_
   refine V.call en64 (V.args2 (V.ed h 1 13 rfl) (V.ed h 3 15 rfl)) (Calls.mono (times_q h.g.1.1 h.g.1.2.1 h.g.1.2.2.1 h.g.1.2.2.2.1 hq hr (by omega)) ?_)
   rintro e W' ⟨A48, c49, A50, c51, rfl, k52, k54, p53, p55, hb⟩
   exact ⟨_, rfl, ⟨A48, c49, A50, c51, rfl, k52, k54, (fun ad e => Nat.le_trans h.g.1.2.2.2.2.1.size (p53 ad e)), (fun ad e => Nat.le_trans h.g.1.2.2.2.2.1.size (p55 ad e))⟩, hb⟩
  ·refine V.s2 rfl fun f W h => ?_
   obtain ⟨A48, c49, A50, c51, a16, k4_0, k4_1, p4_0, p4_1⟩ := V.dp h 4 16 (by kernel_rfl) rfl
   refine V.call en51 (V.args1 (V.ev_tmp rfl a16)) (Calls.mono (told_ok (Q.Sz.fits hs)) ?_)
   rintro e W' ⟨rfl, hb⟩
   exact ⟨_, rfl, ⟨A48, c49, A50, c51, rfl, (k4_0.below hb (Nat.le_refl _)), (k4_1.below hb (Nat.le_refl _)), p4_0, p4_1⟩, hb⟩
  ·refine V.s2 rfl fun f W h => ?_
   obtain ⟨A56, c57, A58, c59, a17, k5_0, k5_1, p5_0, p5_1⟩ := V.dp h 5 17 (by kernel_rfl) rfl
   exact V.v2 (.agg #[.bool (Q.neg (q * r)), Vs A56 (Q.m (q * r)) c57, .bool false, Vs A58 ((q * r).den) c59]) (V.xe (V.ev_tmp rfl a17)) ⟨A56, c57, A58, c59, rfl, k5_0, k5_1, p5_0, p5_1⟩
  ·refine V.s1 rfl fun f W h => ?_
   obtain ⟨A56, c57, A58, c59, a17, k5_0, k5_1, p5_0, p5_1⟩ := V.dp h 5 17 (by kernel_rfl) rfl
   exact V.xe (V.ev_tmp rfl a17)
 intro f64 W65 e66
 clear h1 h2 h3 h4 hb bg38 bg39 bg40
 obtain ⟨⟨h1, h2, h3, h4, hb, bg38, bg39, bg40⟩, z_⟩ := e66.g
 obtain ⟨s0, s1, s4, s5⟩ := V.e4 e66 s0 s1 s4 s5
 obtain ⟨A60, c61, A62, c63, s18, r67, r68, n69, n70⟩ := V.eq e66 6 18 rfl
 have s19 := V.es e66 7 19 rfl
 clear e66 z_
 refine V.tsr (k := 8) rfl s4 s18 bg40 fun W71 hs b' => ?_
 replace h1 := hs.r16 h1
 replace h2 := hs.r16 h2
 replace h3 := hs.r16 h3
 replace h4 := hs.r16 h4
 replace hb := hs.bel hb mg40
 replace bg38 := hs.blk bg38 q38_40
 replace bg39 := hs.blk bg39 q39_40
 replace r67 := hs.r16 r67
 replace r68 := hs.r16 r68
 replace bg40 := b'
 clear hs b'
 refine V.t_val (k := 9) (v := .int .i64 0) (t := 5) rfl rfl rfl (by kernel_rfl) trivial (V.xs (V.ev_tmp rfl s19)) ?_
 intro f72 e73 u74
 replace s0 : f72 0 = .agg #[.bool (Q.neg q), Vs A (Q.m q) c, .bool false, Vs A' q.den c'] := (u74 0 (by decide)).trans s0
 replace s1 : f72 1 = .agg #[.bool (Q.neg r), Vs B (Q.m r) e, .bool false, Vs B' r.den e'] := (u74 1 (by decide)).trans s1
 replace s4 : f72 4 = Vp g40 0 := (u74 4 (by decide)).trans s4
 replace s18 : f72 18 = .agg #[.bool (Q.neg (q * r)), Vs A60 (Q.m (q * r)) c61, .bool false, Vs A62 ((q * r).den) c63] := (u74 18 (by decide)).trans s18
 replace s19 : f72 19 = .int .i64 0 := (u74 19 (by decide)).trans s19
 have s5 := e73
 clear u74
 refine V.t_done rfl (V.nx (V.ret ?_))
 refine V.leave_any (.inl rfl) (V.res_cellTmp rfl rfl rfl s4 s5 (V.lr bg40 Tryz.underlying39 rfl (by kernel_rfl))) ?_
 exact ⟨A60, c61, A62, c63, rfl, r67, r68, n69, n70, hb⟩
theorem Sub_n {A A' B B' : Option Addr} {c c' e e' : Nat} {q r : Rat} {w : World} {k l : Nat} (h1 : R16 w A (Lb.limbs (Q.m q)).length c (Lb.limbs (Q.m q))) (h2 : R16 w A' (Lb.limbs q.den).length c' (Lb.limbs q.den)) (h3 : R16 w B (Lb.limbs (Q.m r)).length e (Lb.limbs (Q.m r))) (h4 : R16 w B' (Lb.limbs r.den).length e' (Lb.limbs r.den)) (hq : Q.Sz k q) (hr : Q.Sz l r) (hk : k ≤ 256) (hl : l ≤ 256) (hs : Q.Sz 256 (q + - r)) :
    Calls Tryz.prog 18 #[.agg #[.bool (Q.neg q), Vs A (Q.m q) c, .bool false, Vs A' q.den c'], .agg #[.bool (Q.neg r), Vs B (Q.m r) e, .bool false, Vs B' r.den e']] w (TupF w (Q.neg (q + - r)) (Q.m (q + - r)) (q + - r).den) := by
 refine V.nt Tryz.func18 rfl rfl fun f0 hf => ?_
 have s0 : f0 0 = .agg #[.bool (Q.neg q), Vs A (Q.m q) c, .bool false, Vs A' q.den c'] := hf 0 (by simp)
 have s1 : f0 1 = .agg #[.bool (Q.neg r), Vs B (Q.m r) e, .bool false, Vs B' r.den e'] := hf 1 (by simp)
 clear hf
 have hb := Below.refl w.heap.size w
 refine V.seq ?_
 refine V.reg 4 [V.Nb w 39 #[.bool (Q.neg q), Vs A (Q.m q) c, .bool false, Vs A' q.den c'], V.Nb w 39 #[.bool (Q.neg r), Vs B (Q.m r) e, .bool false, Vs B' r.den e'], V.Nb w 39 #[.bool false, .slice none 0 0, .bool false, .slice none 0 0], V.E (.int .i64 0)] [0, 1, 2] (V.i h1 (V.i h2 (V.i h3 (V.i h4 hb)))) ?_ ?_
 ·refine V.a4 ?_ ?_ ?_ ?_
  ·exact V.sn rfl fun f W h => V.x_box (V.eo h 0 s0)
  ·exact V.sn rfl fun f W h => V.x_box (V.eo h 1 s1)
  ·exact V.sn rfl fun f W h => V.x_alloc
  ·exact V.z1 rfl fun h => V.xs rfl
 have o_bel := hb.size
 intro f78 W79 e80
 clear h1 h2 h3 h4 hb
 obtain ⟨⟨h1, h2, h3, h4, hb⟩, z_⟩ := e80.g
 obtain ⟨s0, s1⟩ := V.e2 e80 s0 s1
 obtain ⟨g75, s2, bg75, lg75⟩ := V.eq e80 0 2 rfl
 obtain ⟨g76, s3, bg76, lg76⟩ := V.eq e80 1 3 rfl
 obtain ⟨g77, s4, bg77, lg77⟩ := V.eq e80 2 4 rfl
 have mg77 := Nat.le_trans o_bel lg77
 have q75_77 : g75 ≠ g77 := V.ep e80 0 2 2 4 s2 s4
 have q76_77 : g76 ≠ g77 := V.ep e80 1 2 3 4 s3 s4
 have s5 := V.es e80 3 5 rfl
 clear e80 z_
 clear o_bel
 refine V.t_done rfl (V.nx (V.seq (V.seq ?_)))
 refine V.reg 5 [V.E (.agg #[.bool (Q.neg q), Vs A (Q.m q) c, .bool false, Vs A' q.den c']), V.E (.agg #[.bool (Q.neg r), Vs B (Q.m r) e, .bool false, Vs B' r.den e']), (fun v W => ∃ g81 : Nat, v = .slice (some ⟨g81, 0, none⟩) 2 2 ∧ Blk W g81 39 #[.bool (Q.neg q), Vs A (Q.m q) c, .bool false, Vs A' q.den c', .bool (Q.neg r), Vs B (Q.m r) e, .bool false, Vs B' r.den e'] ∧ (w.heap.size ≤ g81)), V.E (.bool true), V.E (.bool false)] [] (V.i h1 (V.i h2 (V.i h3 (V.i h4 (V.i hb (V.i bg75 (V.i bg76 bg77))))))) ?_ ?_
 ·refine V.a5 ?_ ?_ ?_ ?_ ?_
  ·exact V.z1 rfl fun h => V.xl (V.eo h 2 s2) (V.lr h.g.1.2.2.2.2.2.1 Tryz.underlying39)
  ·exact V.z1 rfl fun h => V.xl (V.eo h 3 s3) (V.lr h.g.1.2.2.2.2.2.2.1 Tryz.underlying39)
  ·refine V.s2 rfl fun f W h => ?_
   exact V.valv (.slice (some ⟨W.heap.size, 0, none⟩) 2 2) (V.c2 (V.ed h 0 6 rfl) (V.ed h 1 7 rfl)) ⟨⟨W.heap.size, rfl, Blk.new W 39 #[.bool (Q.neg q), Vs A (Q.m q) c, .bool false, Vs A' q.den c', .bool (Q.neg r), Vs B (Q.m r) e, .bool false, Vs B' r.den e'], h.g.1.2.2.2.2.1.size⟩, (Below.refl _ _).alloc (Nat.le_refl _) _⟩
  ·refine V.s2 rfl fun f W h => ?_
   obtain ⟨g81, a8, k2_0, p2_0⟩ := V.dp h 2 8 (by kernel_rfl) rfl
   refine V.call en53 (V.args1 (V.ev_tmp rfl a8)) (Calls.mono (valid2_q h.g.1.1 h.g.1.2.1 h.g.1.2.2.1 h.g.1.2.2.2.1 k2_0 (hq.mono hk) (hr.mono hl)) ?_)
   rintro e W' ⟨rfl, hb⟩
   exact ⟨_, rfl, rfl, hb⟩
  ·exact V.z1 rfl fun h => V.x_un (V.ed h 3 9 rfl)
 intro f82 W83 e84
 clear h1 h2 h3 h4 hb bg75 bg76 bg77
 obtain ⟨⟨h1, h2, h3, h4, hb, bg75, bg76, bg77⟩, z_⟩ := e84.g
 obtain ⟨s0, s1, s2, s3, s4, s5⟩ := V.e6 e84 s0 s1 s2 s3 s4 s5
 have s10 := V.es e84 4 10 rfl
 clear e84 z_
 refine V.t_done rfl (V.nx ?_)
 refine V.cond_f (V.ev_tmp rfl s10) ?_
 refine V.skip ?_
 refine V.nx (V.seq ?_)
 refine V.reg 13 [V.E (.agg #[.bool (Q.neg q), Vs A (Q.m q) c, .bool false, Vs A' q.den c']), V.E (.agg #[.bool (Q.neg q), Vs A (Q.m q) c, .bool false, Vs A' q.den c']), V.E (Vp g76 0), V.E (.agg #[.bool (Q.neg r), Vs B (Q.m r) e]), (fun v W => ∃ A85 : Option Addr, ∃ c86 : Nat, v = .agg #[.bool (Q.neg (-r)), Vs A85 (Q.m r) c86] ∧ R16 W A85 ((Lb.limbs (Q.m r)).length) c86 (Lb.limbs (Q.m r)) ∧ (∀ ad, A85 = some ad → w.heap.size ≤ ad.block)), V.E (Vp g76 2), V.E (.agg #[.bool false, Vs B' r.den e']), (fun v W => ∃ A89 : Option Addr, ∃ c90 : Nat, v = .agg #[.bool (Q.neg (-r)), Vs A89 (Q.m r) c90, .bool false, Vs B' r.den e'] ∧ R16 W A89 ((Lb.limbs (Q.m r)).length) c90 (Lb.limbs (Q.m r)) ∧ (∀ ad, A89 = some ad → w.heap.size ≤ ad.block)), (fun v W => ∃ A91 : Option Addr, ∃ c92 : Nat, v = .agg #[.bool (Q.neg (-r)), Vs A91 (Q.m r) c92, .bool false, Vs B' r.den e'] ∧ R16 W A91 ((Lb.limbs (Q.m r)).length) c92 (Lb.limbs (Q.m r)) ∧ (∀ ad, A91 = some ad → w.heap.size ≤ ad.block)), (fun v W => ∃ A93 : Option Addr, ∃ c94 : Nat, ∃ A95 : Option Addr, ∃ c96 : Nat, v = .agg #[.bool (Q.neg (q + (-r))), .slice A93 (Lb.limbs (Q.m (q + (-r)))).length c94, .bool false, .slice A95 (Lb.limbs ((q + (-r)).den)).length c96] ∧ R16 W A93 ((Lb.limbs (Q.m (q + (-r)))).length) c94 (Lb.limbs (Q.m (q + (-r)))) ∧ R16 W A95 ((Lb.limbs ((q + (-r)).den)).length) c96 (Lb.limbs ((q + (-r)).den)) ∧ (∀ ad, A93 = some ad → w.heap.size ≤ ad.block) ∧ (∀ ad, A95 = some ad → w.heap.size ≤ ad.block)), (fun v W => ∃ A101 : Option Addr, ∃ c102 : Nat, ∃ A103 : Option Addr, ∃ c104 : Nat, v = .tuple #[.agg #[.bool (Q.neg (q + (-r))), .slice A101 (Lb.limbs (Q.m (q + (-r)))).length c102, .bool false, .slice A103 (Lb.limbs ((q + (-r)).den)).length c104], .int .i64 0] ∧ R16 W A101 ((Lb.limbs (Q.m (q + (-r)))).length) c102 (Lb.limbs (Q.m (q + (-r)))) ∧ R16 W A103 ((Lb.limbs ((q + (-r)).den)).length) c104 (Lb.limbs ((q + (-r)).den)) ∧ (∀ ad, A101 = some ad → w.heap.size ≤ ad.block) ∧ (∀ ad, A103 = some ad → w.heap.size ≤ ad.block)), (fun v W => ∃ A105 : Option Addr, ∃ c106 : Nat, ∃ A107 : Option Addr, ∃ c108 : Nat, v = .agg #[.bool (Q.neg (q + (-r))), .slice A105 (Lb.limbs (Q.m (q + (-r)))).length c106, .bool false, .slice A107 (Lb.limbs ((q + (-r)).den)).length c108] ∧ R16 W A105 ((Lb.limbs (Q.m (q + (-r)))).length) c106 (Lb.limbs (Q.m (q + (-r)))) ∧ R16 W A107 ((Lb.limbs ((q + (-r)).den)).length) c108 (Lb.limbs ((q + (-r)).den)) ∧ (∀ ad, A105 = some ad → w.heap.size ≤ ad.block) ∧ (∀ ad, A107 = some ad → w.heap.size ≤ ad.block)), V.E (.int .i64 0)] [] (V.i h1 (V.i h2 (V.i h3 (V.i h4 (V.i hb (V.i bg75 (V.i bg76 bg77))))))) ?_ ?_
 ·refine V.b8 ?_ ?_ ?_ ?_ ?_ ?_ ?_ ?_ (V.a5 ?_ ?_ ?_ ?_ ?_)
  ·exact V.z1 rfl fun h => V.xl (V.eo h 2 s2) (V.lr h.g.1.2.2.2.2.2.1 Tryz.underlying39)
  ·exact V.z1 rfl fun h => V.b1 (V.ed h 0 12 rfl)
  ·exact V.z1 rfl fun h => V.xa (V.eo h 3 s3)
  ·exact V.z1 rfl fun h => V.xl (V.ed h 2 14 rfl) (V.ld_mid (xs := [.bool (Q.neg r), Vs B (Q.m r) e]) h.g.1.2.2.2.2.2.2.1 (by intro j hj; match j, hj with | 0, _ => rfl | 1, _ => rfl) Tryz.underlying35)
  ·refine V.s2 rfl fun f W h => ?_
   refine V.call en49 (V.args1 (V.ed h 3 15 rfl)) (Calls.mono (negated_nn (Q.neg (-r)) h.g.1.2.2.1 (Nat.le_trans (Q.len_le hr.n) (by omega)) (Q.neg_neg r)) ?_)
   rintro e W' ⟨A85, c86, rfl, k87, p88, hb⟩
   exact ⟨_, rfl, ⟨A85, c86, rfl, k87, (fun ad e => Nat.le_trans h.g.1.2.2.2.2.1.size (p88 ad e))⟩, hb⟩
  ·exact V.z1 rfl fun h => V.xa (V.eo h 3 s3)
  ·exact V.z1 rfl fun h => V.xl (V.ed h 5 17 rfl) (V.ld_mid (xs := [.bool false, Vs B' r.den e']) h.g.1.2.2.2.2.2.2.1 (by intro j hj; match j, hj with | 0, _ => rfl | 1, _ => rfl) Tryz.underlying35)
  ·refine V.s2 rfl fun f W h => ?_
   obtain ⟨A85, c86, a16, k4_0, p4_0⟩ := V.dp h 4 16 (by kernel_rfl) rfl
   exact V.v2 (.agg #[.bool (Q.neg (-r)), Vs A85 (Q.m r) c86, .bool false, Vs B' r.den e']) (V.b2 (V.ev_tmp rfl a16) (V.ed h 6 18 rfl)) ⟨A85, c86, rfl, k4_0, p4_0⟩
  ·refine V.s2 rfl fun f W h => ?_
   obtain ⟨A89, c90, a19, k7_0, p7_0⟩ := V.dp h 7 19 (by kernel_rfl) rfl
   exact V.v2 (.agg #[.bool (Q.neg (-r)), Vs A89 (Q.m r) c90, .bool false, Vs B' r.den e']) (V.b1 (V.ev_tmp rfl a19)) ⟨A89, c90, rfl, k7_0, p7_0⟩
  ·refine V.s2 rfl fun f W h => ?_
   obtain ⟨A91, c92, a20, k8_0, p8_0⟩ := V.dp h 8 20 (by kernel_rfl) rfl
   refine V.call en54 (V.args2 (V.ed h 1 13 rfl) (V.ev_tmp rfl a20)) (Calls.mono (plus_r h.g.1.1 h.g.1.2.1 k8_0 h.g.1.2.2.2.1 hq hr.neg (by omega) rfl (Q.neg_m r) (Q.neg_den r)) ?_)
   rintro e W' ⟨A93, c94, A95, c96, rfl, k97, k99, p98, p100, hb⟩
   exact ⟨_, rfl, ⟨A93, c94, A95, c96, rfl, k97, k99, (fun ad e => Nat.le_trans h.g.1.2.2.2.2.1.size (p98 ad e)), (fun ad e => Nat.le_trans h.g.1.2.2.2.2.1.size (p100 ad e))⟩, hb⟩
  ·refine V.s2 rfl fun f W h => ?_
   obtain ⟨A93, c94, A95, c96, a21, k9_0, k9_1, p9_0, p9_1⟩ := V.dp h 9 21 (by kernel_rfl) rfl
   refine V.call en51 (V.args1 (V.ev_tmp rfl a21)) (Calls.mono (told_ok (Q.Sz.fits hs)) ?_)
   rintro e W' ⟨rfl, hb⟩
   exact ⟨_, rfl, ⟨A93, c94, A95, c96, rfl, (k9_0.below hb (Nat.le_refl _)), (k9_1.below hb (Nat.le_refl _)), p9_0, p9_1⟩, hb⟩
  ·refine V.s2 rfl fun f W h => ?_
   obtain ⟨A101, c102, A103, c104, a22, k10_0, k10_1, p10_0, p10_1⟩ := V.dp h 10 22 (by kernel_rfl) rfl
   exact V.v2 (.agg #[.bool (Q.neg (q + (-r))), .slice A101 (Lb.limbs (Q.m (q + (-r)))).length c102, .bool false, .slice A103 (Lb.limbs ((q + (-r)).den)).length c104]) (V.xe (V.ev_tmp rfl a22)) ⟨A101, c102, A103, c104, rfl, k10_0, k10_1, p10_0, p10_1⟩
  ·refine V.s1 rfl fun f W h => ?_
   obtain ⟨A101, c102, A103, c104, a22, k10_0, k10_1, p10_0, p10_1⟩ := V.dp h 10 22 (by kernel_rfl) rfl
   exact V.xe (V.ev_tmp rfl a22)
 intro f109 W110 e111
 clear h1 h2 h3 h4 hb bg75 bg76 bg77
 obtain ⟨⟨h1, h2, h3, h4, hb, bg75, bg76, bg77⟩, z_⟩ := e111.g
 obtain ⟨s0, s1, s4, s5⟩ := V.e4 e111 s0 s1 s4 s5
 obtain ⟨A105, c106, A107, c108, s23, r112, r113, n114, n115⟩ := V.eq e111 11 23 rfl
 have s24 := V.es e111 12 24 rfl
 clear e111 z_
 refine V.tsr (k := 13) rfl s4 s23 bg77 fun W116 hs b' => ?_
 replace h1 := hs.r16 h1
 replace h2 := hs.r16 h2
 replace h3 := hs.r16 h3
 replace h4 := hs.r16 h4
 replace hb := hs.bel hb mg77
 replace bg75 := hs.blk bg75 q75_77
 replace bg76 := hs.blk bg76 q76_77
 replace r112 := hs.r16 r112
 replace r113 := hs.r16 r113
 replace bg77 := b'
 clear hs b'
 refine V.t_val (k := 14) (v := .int .i64 0) (t := 5) rfl rfl rfl (by kernel_rfl) trivial (V.xs (V.ev_tmp rfl s24)) ?_
 intro f117 e118 u119
 replace s0 : f117 0 = .agg #[.bool (Q.neg q), Vs A (Q.m q) c, .bool false, Vs A' q.den c'] := (u119 0 (by decide)).trans s0
 replace s1 : f117 1 = .agg #[.bool (Q.neg r), Vs B (Q.m r) e, .bool false, Vs B' r.den e'] := (u119 1 (by decide)).trans s1
 replace s4 : f117 4 = Vp g77 0 := (u119 4 (by decide)).trans s4
 replace s23 : f117 23 = .agg #[.bool (Q.neg (q + (-r))), .slice A105 (Lb.limbs (Q.m (q + (-r)))).length c106, .bool false, .slice A107 (Lb.limbs ((q + (-r)).den)).length c108] := (u119 23 (by decide)).trans s23
 replace s24 : f117 24 = .int .i64 0 := (u119 24 (by decide)).trans s24
 have s5 := e118
 clear u119
 refine V.t_done rfl (V.nx (V.ret ?_))
 refine V.leave_any (.inl rfl) (V.res_cellTmp rfl rfl rfl s4 s5 (V.lr bg77 Tryz.underlying39 rfl (by kernel_rfl))) ?_
 exact ⟨A105, c106, A107, c108, rfl, r112, r113, n114, n115, hb⟩
theorem recip_p {A A' : Option Addr} {c c' m d : Nat} {w : World} (h1 : R16 w A (Lb.limbs m).length c (Lb.limbs m)) (h2 : R16 w A' (Lb.limbs d).length c' (Lb.limbs d)) (hm : (Lb.limbs m).length ≤ 1024) (hd : (Lb.limbs d).length ≤ 1024) (hd0 : d ≠ 0) :
    Calls Tryz.prog 169 #[.agg #[.bool false, Vs A m c, .bool false, Vs A' d c']] w fun ee w' => ∃ B e B' e', ee = .returned (.agg #[.bool false, Vs B d e, .bool false, Vs B' m e']) ∧ R16 w' B (Lb.limbs d).length e (Lb.limbs d) ∧ R16 w' B' (Lb.limbs m).length e' (Lb.limbs m) ∧ Below w.heap.size w w' := by
 refine V.nt Tryz.func169 rfl rfl fun f0 hf => ?_
 have s0 : f0 0 = .agg #[.bool false, Vs A m c, .bool false, Vs A' d c'] := hf 0 (by simp)
 clear hf
 have hb := Below.refl w.heap.size w
 refine V.seq ?_
 refine V.reg 2 [V.Nb w 82 #[.bool false, Vs A m c, .bool false, Vs A' d c'], V.Nb w 82 #[.bool false, .slice none 0 0, .bool false, .slice none 0 0]] [0, 1] (V.i h1 (V.i h2 hb)) ?_ ?_
 ·refine V.a2 ?_ ?_
  ·exact V.sn rfl fun f W h => V.x_box (V.eo h 0 s0)
  ·exact V.sn rfl fun f W h => V.x_alloc
 have o_bel := hb.size
 intro f122 W123 e124
 clear h1 h2 hb
 obtain ⟨⟨h1, h2, hb⟩, z_⟩ := e124.g
 replace s0 := V.e1 e124 s0
 obtain ⟨g120, s1, bg120, lg120⟩ := V.eq e124 0 1 rfl
 obtain ⟨g121, s2, bg121, lg121⟩ := V.eq e124 1 2 rfl
 have mg121 := Nat.le_trans o_bel lg121
 clear e124 z_
 clear o_bel
 refine V.t_done rfl (V.nx (V.seq ?_))
 refine V.regF 8 [V.E (Vp g120 0), V.E (Vp g120 2), V.E (.agg #[.bool false, Vs A' d c']), V.E (Vp g120 0), V.E (Vp g120 0), V.E (.agg #[.bool false, Vs A m c]), V.Nb W123 35 #[.bool false, .slice none 0 0], V.Nb W123 35 #[.bool false, .slice none 0 0]] [6, 7] (V.i h1 (V.i h2 (V.i hb (V.i bg120 bg121)))) [3, 4, 5] (fun W => Blk W g120 82 #[.bool false, Vs A m c, .bool false, Vs A' d c']) (fun W h => h.1.2.2.2.1) ?_ ?_ ?_
 ·refine V.a8 ?_ ?_ ?_ ?_ ?_ ?_ ?_ ?_
  ·exact V.z1 rfl fun h => V.xa (V.eo h 1 s1)
  ·exact V.z1 rfl fun h => V.xa (V.ed h 0 5 rfl)
  ·exact V.z1 rfl fun h => V.xl (V.ed h 1 6 rfl) (V.ld_mid (xs := [.bool false, Vs A' d c']) h.g.1.2.2.2.1 (by intro j hj; match j, hj with | 0, _ => rfl | 1, _ => rfl) Tryz.underlying35)
  ·exact V.z1 rfl fun h => V.xa (V.eo h 1 s1)
  ·exact V.z1 rfl fun h => V.xa (V.ed h 3 8 rfl)
  ·exact V.z1 rfl fun h => V.xl (V.ed h 4 9 rfl) (V.ld_mid (xs := [.bool false, Vs A m c]) h.g.1.2.2.2.1 (by intro j hj; match j, hj with | 0, _ => rfl | 1, _ => rfl) Tryz.underlying35)
  ·exact V.sn rfl fun f W h => V.x_alloc
  ·exact V.sn rfl fun f W h => V.x_alloc
 ·refine V.fl3 (V.fl_step rfl rfl fun f W h => ?_) (V.fl_step rfl rfl fun f W h => ?_) (V.fl_step rfl rfl fun f W h => ?_)
  ·skip
   exact ⟨Vp g120 0, fun _ _ => V.xa (V.eo h 1 s1), rfl⟩
  ·skip
   exact ⟨Vp g120 0, fun _ _ => V.xa (V.ed h 3 8 rfl), rfl⟩
  ·skip
   exact ⟨.agg #[.bool false, Vs A m c], fun _ hS => V.xl (V.ed h 4 9 rfl) (V.ld_mid (xs := [.bool false, Vs A m c]) hS (by intro j hj; match j, hj with | 0, _ => rfl | 1, _ => rfl) Tryz.underlying35), rfl⟩
 have o_g120 := bg120.lt
 have o_g121 := bg121.lt
 have o_bel := hb.size
 intro f127 W128 e129
 clear h1 h2 hb bg120 bg121
 obtain ⟨⟨h1, h2, hb, bg120, bg121⟩, z_⟩ := e129.g
 obtain ⟨s0, s2⟩ := V.e2 e129 s0 s2
 have s7 := V.es e129 2 7 rfl
 have s10 := V.es e129 5 10 rfl
 obtain ⟨g125, s3, bg125, lg125⟩ := V.eq e129 6 3 rfl
 have mg125 := Nat.le_trans o_bel lg125
 have q120_125 : g120 ≠ g125 := by omega
 have q121_125 : g121 ≠ g125 := by omega
 obtain ⟨g126, s4, bg126, lg126⟩ := V.eq e129 7 4 rfl
 have mg126 := Nat.le_trans o_bel lg126
 have q120_126 : g120 ≠ g126 := by omega
 have q121_126 : g121 ≠ g126 := by omega
 have q125_126 : g125 ≠ g126 := V.ep e129 6 7 3 4 s3 s4
 clear e129 z_
 clear o_bel o_g120 o_g121
 refine V.t_skip (k := 8) rfl rfl rfl (by kernel_rfl) (V.blk_far (cs := #[.bool false, Vs A' d c']) bg120 q120_125) (V.x_store (V.ev_tmp rfl s3) (V.ev_tmp rfl s7) (V.st_row (cs' := #[.bool false, Vs A' d c']) bg125 (by kernel_rfl) rfl (by kernel_rfl))) ?_
 replace h1 := V.r16_far (cs' := #[.bool false, Vs A' d c']) h1 bg125 (by simp [noLimb])
 replace h2 := V.r16_far (cs' := #[.bool false, Vs A' d c']) h2 bg125 (by simp [noLimb])
 replace hb := V.bel_far (cs := #[.bool false, Vs A' d c']) hb mg125
 replace bg120 := V.blk_far (cs := #[.bool false, Vs A' d c']) bg120 q120_125
 replace bg121 := V.blk_far (cs := #[.bool false, Vs A' d c']) bg121 q121_125
 replace bg126 := V.blk_far (cs := #[.bool false, Vs A' d c']) bg126 (Ne.symm q125_126)
 replace bg125 := V.blk_same (cs' := #[.bool false, Vs A' d c']) bg125
 generalize W128.setRow g125 #[.bool false, Vs A' d c'] = W130 at *
 refine V.t_skip (k := 9) rfl rfl rfl (by kernel_rfl) (V.blk_far (cs := #[.bool false, Vs A m c]) bg120 q120_126) (V.x_store (V.ev_tmp rfl s4) (V.ev_tmp rfl s10) (V.st_row (cs' := #[.bool false, Vs A m c]) bg126 (by kernel_rfl) rfl (by kernel_rfl))) ?_
 replace h1 := V.r16_far (cs' := #[.bool false, Vs A m c]) h1 bg126 (by simp [noLimb])
 replace h2 := V.r16_far (cs' := #[.bool false, Vs A m c]) h2 bg126 (by simp [noLimb])
 replace hb := V.bel_far (cs := #[.bool false, Vs A m c]) hb mg126
 replace bg120 := V.blk_far (cs := #[.bool false, Vs A m c]) bg120 q120_126
 replace bg121 := V.blk_far (cs := #[.bool false, Vs A m c]) bg121 q121_126
 replace bg125 := V.blk_far (cs := #[.bool false, Vs A m c]) bg125 q125_126
 replace bg126 := V.blk_same (cs' := #[.bool false, Vs A m c]) bg126
 generalize W130.setRow g126 #[.bool false, Vs A m c] = W131 at *
 refine V.t_done rfl (V.nx (V.seq (V.seq ?_)))
 clear bg120
 refine V.reg 2 [V.E (Vp g126 0), V.E (.bool false)] [] (V.i h1 (V.i h2 (V.i hb (V.i bg121 (V.i bg125 bg126))))) ?_ ?_
 ·refine V.a2 ?_ ?_
  ·exact V.z1 rfl fun h => V.xa (V.eo h 4 s4)
  ·exact V.z1 rfl fun h => V.xl (V.ed h 0 11 rfl) (V.lo h.g.1.2.2.2.2.2 rfl)
 intro f132 W133 e134
 clear h1 h2 hb bg121 bg125 bg126
 obtain ⟨⟨h1, h2, hb, bg121, bg125, bg126⟩, z_⟩ := e134.g
 obtain ⟨s0, s2, s3, s4⟩ := V.e4 e134 s0 s2 s3 s4
 have s12 := V.es e134 1 12 rfl
 clear e134 z_
 refine V.t_done rfl (V.nx ?_)
 refine V.cond_f (V.ev_tmp rfl s12) ?_
 refine V.skip ?_
 refine V.nx (V.seq ?_)
 refine V.reg 4 [V.E (.agg #[.bool false, Vs A' d c']), V.E (.agg #[.bool false, Vs A m c]), V.E (.agg #[.bool false, Vs A' d c', .bool false, Vs A m c]), V.E (.agg #[.bool false, Vs A' d c', .bool false, Vs A m c])] [] (V.i h1 (V.i h2 (V.i hb (V.i bg121 (V.i bg125 bg126))))) ?_ ?_
 ·refine V.a4 ?_ ?_ ?_ ?_
  ·exact V.z1 rfl fun h => V.xl (V.eo h 3 s3) (V.lr h.g.1.2.2.2.2.1 Tryz.underlying35)
  ·exact V.z1 rfl fun h => V.xl (V.eo h 4 s4) (V.lr h.g.1.2.2.2.2.2 Tryz.underlying35)
  ·exact V.z1 rfl fun h => V.b2 (V.ed h 0 17 rfl) (V.ed h 1 18 rfl)
  ·exact V.z1 rfl fun h => V.b1 (V.ed h 2 19 rfl)
 intro f135 W136 e137
 clear h1 h2 hb bg121 bg125 bg126
 obtain ⟨⟨h1, h2, hb, bg121, bg125, bg126⟩, z_⟩ := e137.g
 obtain ⟨s0, s2⟩ := V.e2 e137 s0 s2
 have s20 := V.es e137 3 20 rfl
 clear e137 z_
 refine V.tsr (k := 4) rfl s2 s20 bg121 fun W138 hs b' => ?_
 replace h1 := hs.r16 h1
 replace h2 := hs.r16 h2
 replace hb := hs.bel hb mg121
 replace bg125 := hs.blk bg125 (Ne.symm q121_125)
 replace bg126 := hs.blk bg126 (Ne.symm q121_126)
 replace bg121 := b'
 clear hs b'
 refine V.t_done rfl (V.nx (V.ret ?_))
 refine V.leave_any (.inl rfl) (V.res_cell rfl rfl s2 (V.lr bg121 Tryz.underlying82 rfl (by kernel_rfl))) ?_
 exact ⟨A', c', A, c, rfl, h2, h1, hb⟩
theorem recip_n {A A' : Option Addr} {c c' m d : Nat} {w : World} (h1 : R16 w A (Lb.limbs m).length c (Lb.limbs m)) (h2 : R16 w A' (Lb.limbs d).length c' (Lb.limbs d)) (hm : (Lb.limbs m).length ≤ 1024) (hd : (Lb.limbs d).length ≤ 1024) (hd0 : d ≠ 0) :
    Calls Tryz.prog 169 #[.agg #[.bool true, Vs A m c, .bool false, Vs A' d c']] w fun ee w' => ∃ B e B' e', ee = .returned (.agg #[.bool true, Vs B d e, .bool false, Vs B' m e']) ∧ R16 w' B (Lb.limbs d).length e (Lb.limbs d) ∧ R16 w' B' (Lb.limbs m).length e' (Lb.limbs m) ∧ Below w.heap.size w w' := by
 refine V.nt Tryz.func169 rfl rfl fun f0 hf => ?_
 have s0 : f0 0 = .agg #[.bool true, Vs A m c, .bool false, Vs A' d c'] := hf 0 (by simp)
 clear hf
 have hb := Below.refl w.heap.size w
 refine V.seq ?_
 refine V.reg 2 [V.Nb w 82 #[.bool true, Vs A m c, .bool false, Vs A' d c'], V.Nb w 82 #[.bool false, .slice none 0 0, .bool false, .slice none 0 0]] [0, 1] (V.i h1 (V.i h2 hb)) ?_ ?_
 ·refine V.a2 ?_ ?_
  ·exact V.sn rfl fun f W h => V.x_box (V.eo h 0 s0)
  ·exact V.sn rfl fun f W h => V.x_alloc
 have o_bel := hb.size
 intro f141 W142 e143
 clear h1 h2 hb
 obtain ⟨⟨h1, h2, hb⟩, z_⟩ := e143.g
 replace s0 := V.e1 e143 s0
 obtain ⟨g139, s1, bg139, lg139⟩ := V.eq e143 0 1 rfl
 obtain ⟨g140, s2, bg140, lg140⟩ := V.eq e143 1 2 rfl
 have mg140 := Nat.le_trans o_bel lg140
 clear e143 z_
 clear o_bel
 refine V.t_done rfl (V.nx (V.seq ?_))
 refine V.regF 8 [V.E (Vp g139 0), V.E (Vp g139 2), V.E (.agg #[.bool false, Vs A' d c']), V.E (Vp g139 0), V.E (Vp g139 0), V.E (.agg #[.bool true, Vs A m c]), V.Nb W142 35 #[.bool false, .slice none 0 0], V.Nb W142 35 #[.bool false, .slice none 0 0]] [6, 7] (V.i h1 (V.i h2 (V.i hb (V.i bg139 bg140)))) [3, 4, 5] (fun W => Blk W g139 82 #[.bool true, Vs A m c, .bool false, Vs A' d c']) (fun W h => h.1.2.2.2.1) ?_ ?_ ?_
 ·refine V.a8 ?_ ?_ ?_ ?_ ?_ ?_ ?_ ?_
  ·exact V.z1 rfl fun h => V.xa (V.eo h 1 s1)
  ·exact V.z1 rfl fun h => V.xa (V.ed h 0 5 rfl)
  ·exact V.z1 rfl fun h => V.xl (V.ed h 1 6 rfl) (V.ld_mid (xs := [.bool false, Vs A' d c']) h.g.1.2.2.2.1 (by intro j hj; match j, hj with | 0, _ => rfl | 1, _ => rfl) Tryz.underlying35)
  ·exact V.z1 rfl fun h => V.xa (V.eo h 1 s1)
  ·exact V.z1 rfl fun h => V.xa (V.ed h 3 8 rfl)
  ·exact V.z1 rfl fun h => V.xl (V.ed h 4 9 rfl) (V.ld_mid (xs := [.bool true, Vs A m c]) h.g.1.2.2.2.1 (by intro j hj; match j, hj with | 0, _ => rfl | 1, _ => rfl) Tryz.underlying35)
  ·exact V.sn rfl fun f W h => V.x_alloc
  ·exact V.sn rfl fun f W h => V.x_alloc
 ·refine V.fl3 (V.fl_step rfl rfl fun f W h => ?_) (V.fl_step rfl rfl fun f W h => ?_) (V.fl_step rfl rfl fun f W h => ?_)
  ·skip
   exact ⟨Vp g139 0, fun _ _ => V.xa (V.eo h 1 s1), rfl⟩
  ·skip
   exact ⟨Vp g139 0, fun _ _ => V.xa (V.ed h 3 8 rfl), rfl⟩
  ·skip
   exact ⟨.agg #[.bool true, Vs A m c], fun _ hS => V.xl (V.ed h 4 9 rfl) (V.ld_mid (xs := [.bool true, Vs A m c]) hS (by intro j hj; match j, hj with | 0, _ => rfl | 1, _ => rfl) Tryz.underlying35), rfl⟩
 have o_g139 := bg139.lt
 have o_g140 := bg140.lt
 have o_bel := hb.size
 intro f146 W147 e148
 clear h1 h2 hb bg139 bg140
 obtain ⟨⟨h1, h2, hb, bg139, bg140⟩, z_⟩ := e148.g
 obtain ⟨s0, s2⟩ := V.e2 e148 s0 s2
 have s7 := V.es e148 2 7 rfl
 have s10 := V.es e148 5 10 rfl
 obtain ⟨g144, s3, bg144, lg144⟩ := V.eq e148 6 3 rfl
 have mg144 := Nat.le_trans o_bel lg144
 have q139_144 : g139 ≠ g144 := by omega
 have q140_144 : g140 ≠ g144 := by omega
 obtain ⟨g145, s4, bg145, lg145⟩ := V.eq e148 7 4 rfl
 have mg145 := Nat.le_trans o_bel lg145
 have q139_145 : g139 ≠ g145 := by omega
 have q140_145 : g140 ≠ g145 := by omega
 have q144_145 : g144 ≠ g145 := V.ep e148 6 7 3 4 s3 s4
 clear e148 z_
 clear o_bel o_g139 o_g140
 refine V.t_skip (k := 8) rfl rfl rfl (by kernel_rfl) (V.blk_far (cs := #[.bool false, Vs A' d c']) bg139 q139_144) (V.x_store (V.ev_tmp rfl s3) (V.ev_tmp rfl s7) (V.st_row (cs' := #[.bool false, Vs A' d c']) bg144 (by kernel_rfl) rfl (by kernel_rfl))) ?_
 replace h1 := V.r16_far (cs' := #[.bool false, Vs A' d c']) h1 bg144 (by simp [noLimb])
 replace h2 := V.r16_far (cs' := #[.bool false, Vs A' d c']) h2 bg144 (by simp [noLimb])
 replace hb := V.bel_far (cs := #[.bool false, Vs A' d c']) hb mg144
 replace bg139 := V.blk_far (cs := #[.bool false, Vs A' d c']) bg139 q139_144
 replace bg140 := V.blk_far (cs := #[.bool false, Vs A' d c']) bg140 q140_144
 replace bg145 := V.blk_far (cs := #[.bool false, Vs A' d c']) bg145 (Ne.symm q144_145)
 replace bg144 := V.blk_same (cs' := #[.bool false, Vs A' d c']) bg144
 generalize W147.setRow g144 #[.bool false, Vs A' d c'] = W149 at *
 refine V.t_skip (k := 9) rfl rfl rfl (by kernel_rfl) (V.blk_far (cs := #[.bool true, Vs A m c]) bg139 q139_145) (V.x_store (V.ev_tmp rfl s4) (V.ev_tmp rfl s10) (V.st_row (cs' := #[.bool true, Vs A m c]) bg145 (by kernel_rfl) rfl (by kernel_rfl))) ?_
 replace h1 := V.r16_far (cs' := #[.bool true, Vs A m c]) h1 bg145 (by simp [noLimb])
 replace h2 := V.r16_far (cs' := #[.bool true, Vs A m c]) h2 bg145 (by simp [noLimb])
 replace hb := V.bel_far (cs := #[.bool true, Vs A m c]) hb mg145
 replace bg139 := V.blk_far (cs := #[.bool true, Vs A m c]) bg139 q139_145
 replace bg140 := V.blk_far (cs := #[.bool true, Vs A m c]) bg140 q140_145
 replace bg144 := V.blk_far (cs := #[.bool true, Vs A m c]) bg144 q144_145
 replace bg145 := V.blk_same (cs' := #[.bool true, Vs A m c]) bg145
 generalize W149.setRow g145 #[.bool true, Vs A m c] = W150 at *
 refine V.t_done rfl (V.nx (V.seq (V.seq ?_)))
 clear bg139
 refine V.reg 2 [V.E (Vp g145 0), V.E (.bool true)] [] (V.i h1 (V.i h2 (V.i hb (V.i bg140 (V.i bg144 bg145))))) ?_ ?_
 ·refine V.a2 ?_ ?_
  ·exact V.z1 rfl fun h => V.xa (V.eo h 4 s4)
  ·exact V.z1 rfl fun h => V.xl (V.ed h 0 11 rfl) (V.lo h.g.1.2.2.2.2.2 rfl)
 intro f151 W152 e153
 clear h1 h2 hb bg140 bg144 bg145
 obtain ⟨⟨h1, h2, hb, bg140, bg144, bg145⟩, z_⟩ := e153.g
 obtain ⟨s0, s2, s3, s4⟩ := V.e4 e153 s0 s2 s3 s4
 have s12 := V.es e153 1 12 rfl
 clear e153 z_
 refine V.t_done rfl (V.nx ?_)
 refine V.cond_t (V.ev_tmp rfl s12) ?_
 refine V.reg 4 [V.E (.agg #[.bool false, Vs A' d c']), (fun v W => ∃ A154 : Option Addr, ∃ c155 : Nat, v = .agg #[.bool true, Vs A154 d c155] ∧ R16 W A154 ((Lb.limbs d).length) c155 (Lb.limbs d) ∧ (∀ ad, A154 = some ad → w.heap.size ≤ ad.block)), V.E (.agg #[.bool true, Vs A m c]), (fun v W => ∃ A158 : Option Addr, ∃ c159 : Nat, v = .agg #[.bool false, Vs A158 m c159] ∧ R16 W A158 ((Lb.limbs m).length) c159 (Lb.limbs m) ∧ (∀ ad, A158 = some ad → w.heap.size ≤ ad.block))] [] (V.i h1 (V.i h2 (V.i hb (V.i bg140 (V.i bg144 bg145))))) ?_ ?_
 ·refine V.a4 ?_ ?_ ?_ ?_
  ·exact V.z1 rfl fun h => V.xl (V.eo h 3 s3) (V.lr h.g.1.2.2.2.2.1 Tryz.underlying35)
  ·refine V.s2 rfl fun f W h => ?_
   refine V.call en49 (V.args1 (V.ed h 0 13 rfl)) (Calls.mono (negated_nn true h.g.1.2.1 (by have := hd; omega) (by rw [Q.limbs_pos_iff]; simp [hd0])) ?_)
   rintro e W' ⟨A154, c155, rfl, k156, p157, hb⟩
   exact ⟨_, rfl, ⟨A154, c155, rfl, k156, (fun ad e => Nat.le_trans h.g.1.2.2.1.size (p157 ad e))⟩, hb⟩
  ·exact V.z1 rfl fun h => V.xl (V.eo h 4 s4) (V.lr h.g.1.2.2.2.2.2 Tryz.underlying35)
  ·refine V.s2 rfl fun f W h => ?_
   refine V.call en49 (V.args1 (V.ed h 2 15 rfl)) (Calls.mono (negated_nn false h.g.1.1 (by have := hm; omega) (by simp)) ?_)
   rintro e W' ⟨A158, c159, rfl, k160, p161, hb⟩
   exact ⟨_, rfl, ⟨A158, c159, rfl, k160, (fun ad e => Nat.le_trans h.g.1.2.2.1.size (p161 ad e))⟩, hb⟩
 intro f162 W163 e164
 clear h1 h2 hb bg140 bg144 bg145
 obtain ⟨⟨h1, h2, hb, bg140, bg144, bg145⟩, z_⟩ := e164.g
 obtain ⟨s0, s2, s3, s4⟩ := V.e4 e164 s0 s2 s3 s4
 obtain ⟨A154, c155, s14, r165, n166⟩ := V.eq e164 1 14 rfl
 obtain ⟨A158, c159, s16, r167, n168⟩ := V.eq e164 3 16 rfl
 clear e164 z_
 refine V.tsr (k := 4) rfl s3 s14 bg144 fun W169 hs b' => ?_
 replace h1 := hs.r16 h1
 replace h2 := hs.r16 h2
 replace hb := hs.bel hb mg144
 replace bg140 := hs.blk bg140 q140_144
 replace bg145 := hs.blk bg145 (Ne.symm q144_145)
 replace r165 := hs.r16 r165
 replace r167 := hs.r16 r167
 replace bg144 := b'
 clear hs b'
 refine V.tsr (k := 5) rfl s4 s16 bg145 fun W170 hs b' => ?_
 replace h1 := hs.r16 h1
 replace h2 := hs.r16 h2
 replace hb := hs.bel hb mg145
 replace bg140 := hs.blk bg140 q140_145
 replace bg144 := hs.blk bg144 q144_145
 replace r165 := hs.r16 r165
 replace r167 := hs.r16 r167
 replace bg145 := b'
 clear hs b'
 refine V.t_done rfl (V.nx (V.seq ?_))
 refine V.reg 4 [V.E (.agg #[.bool true, Vs A154 d c155]), V.E (.agg #[.bool false, Vs A158 m c159]), V.E (.agg #[.bool true, Vs A154 d c155, .bool false, Vs A158 m c159]), V.E (.agg #[.bool true, Vs A154 d c155, .bool false, Vs A158 m c159])] [] (V.i h1 (V.i h2 (V.i hb (V.i bg140 (V.i bg144 (V.i bg145 (V.i r165 r167))))))) ?_ ?_
 ·refine V.a4 ?_ ?_ ?_ ?_
  ·exact V.z1 rfl fun h => V.xl (V.eo h 3 s3) (V.lr h.g.1.2.2.2.2.1 Tryz.underlying35)
  ·exact V.z1 rfl fun h => V.xl (V.eo h 4 s4) (V.lr h.g.1.2.2.2.2.2.1 Tryz.underlying35)
  ·exact V.z1 rfl fun h => V.b2 (V.ed h 0 17 rfl) (V.ed h 1 18 rfl)
  ·exact V.z1 rfl fun h => V.b1 (V.ed h 2 19 rfl)
 intro f171 W172 e173
 clear h1 h2 hb bg140 bg144 bg145 r165 r167
 obtain ⟨⟨h1, h2, hb, bg140, bg144, bg145, r165, r167⟩, z_⟩ := e173.g
 obtain ⟨s0, s2⟩ := V.e2 e173 s0 s2
 have s20 := V.es e173 3 20 rfl
 clear e173 z_
 refine V.tsr (k := 4) rfl s2 s20 bg140 fun W174 hs b' => ?_
 replace h1 := hs.r16 h1
 replace h2 := hs.r16 h2
 replace hb := hs.bel hb mg140
 replace bg144 := hs.blk bg144 (Ne.symm q140_144)
 replace bg145 := hs.blk bg145 (Ne.symm q140_145)
 replace r165 := hs.r16 r165
 replace r167 := hs.r16 r167
 replace bg140 := b'
 clear hs b'
 refine V.t_done rfl (V.nx (V.ret ?_))
 refine V.leave_any (.inl rfl) (V.res_cell rfl rfl s2 (V.lr bg140 Tryz.underlying82 rfl (by kernel_rfl))) ?_
 exact ⟨A154, c155, A158, c159, rfl, r165, r167, hb⟩
theorem reciprocal_q {A A' : Option Addr} {c c' : Nat} {q : Rat} {w : World} (h1 : R16 w A (Lb.limbs (Q.m q)).length c (Lb.limbs (Q.m q))) (h2 : R16 w A' (Lb.limbs q.den).length c' (Lb.limbs q.den)) {k : Nat} (hq : Q.Sz k q ∧ k ≤ 1024 ∧ q ≠ 0) :
    Calls Tryz.prog 169 #[.agg #[.bool (Q.neg q), Vs A (Q.m q) c, .bool false, Vs A' q.den c']] w fun ee w' => ∃ B e B' e', ee = .returned (.agg #[.bool (Q.neg q⁻¹), Vs B (Q.m q⁻¹) e, .bool false, .slice B' (Lb.limbs q⁻¹.den).length e']) ∧ R16 w' B (Lb.limbs (Q.m q⁻¹)).length e (Lb.limbs (Q.m q⁻¹)) ∧ R16 w' B' (Lb.limbs q⁻¹.den).length e' (Lb.limbs q⁻¹.den) ∧ Below w.heap.size w w' := by
  have l1 := Nat.le_trans (Q.len_le hq.1.n) hq.2.1
  have l2 := Nat.le_trans (Q.len_le hq.1.d) hq.2.1
  rcases Q.inv_cases hq.2.2 with ⟨e1, e2, e3, e4⟩ | ⟨e1, e2, e3, e4⟩
  · rw [e1, e2, e3, e4]; exact recip_p h1 h2 l1 l2 q.den_nz
  · rw [e1, e2, e3, e4]; exact recip_n h1 h2 l1 l2 q.den_nz
theorem zero_q {A A' : Option Addr} {c c' : Nat} {q : Rat} {w : World} :
    Calls Tryz.prog 168 #[.agg #[.bool (Q.neg q), Vs A (Q.m q) c, .bool false, Vs A' q.den c']] w fun e w' => e = .returned (.bool (decide (q = 0))) ∧ Below w.heap.size w w' := by
 refine V.nt Tryz.func168 rfl rfl fun f0 hf => ?_
 have s0 : f0 0 = .agg #[.bool (Q.neg q), Vs A (Q.m q) c, .bool false, Vs A' q.den c'] := hf 0 (by simp)
 clear hf
 have hb := Below.refl w.heap.size w
 refine V.seq ?_
 refine V.reg 2 [V.Nb w 82 #[.bool (Q.neg q), Vs A (Q.m q) c, .bool false, Vs A' q.den c'], V.E (.bool false)] [0] hb ?_ ?_
 ·refine V.a2 ?_ ?_
  ·exact V.sn rfl fun f W h => V.x_box (V.eo h 0 s0)
  ·exact V.z1 rfl fun h => V.xs rfl
 have o_bel := hb.size
 intro f176 W177 e178
 clear hb
 obtain ⟨hb, z_⟩ := e178.g
 replace s0 := V.e1 e178 s0
 obtain ⟨g175, s1, bg175, lg175⟩ := V.eq e178 0 1 rfl
 have s2 := V.es e178 1 2 rfl
 clear e178 z_
 clear o_bel
 refine V.t_done rfl (V.nx (V.seq ?_))
 refine V.reg 7 [V.E (Vp g175 0), V.E (Vp g175 0), V.E (Vp g175 1), V.E (Vs A (Q.m q) c), V.E (.int .i64 ((Lb.limbs (Q.m q)).length : Int)), V.E (.bool (((Lb.limbs (Q.m q)).length : Int) == (0 : Int))), V.E (.bool (((Lb.limbs (Q.m q)).length : Int) == (0 : Int)))] [] (V.i hb bg175) ?_ ?_
 ·refine V.a7 ?_ ?_ ?_ ?_ ?_ ?_ ?_
  ·exact V.z1 rfl fun h => V.xa (V.eo h 1 s1)
  ·exact V.z1 rfl fun h => V.xa (V.ed h 0 3 rfl)
  ·exact V.z1 rfl fun h => V.xa (V.ed h 1 4 rfl)
  ·exact V.z1 rfl fun h => V.xl (V.ed h 2 5 rfl) (V.lo h.g.1.2 rfl)
  ·exact V.z1 rfl fun h => V.x_len (V.ed h 3 6 rfl)
  ·exact V.z1 rfl fun h => V.xb (V.ed h 4 7 rfl) rfl
  ·exact V.se rfl 5 8 rfl
 intro f179 W180 e181
 clear hb bg175
 obtain ⟨⟨hb, bg175⟩, z_⟩ := e181.g
 replace s0 := V.e1 e181 s0
 have s2 := V.es e181 6 2 rfl
 clear e181 z_
 refine V.t_done rfl (V.nx (V.ret ?_))
 refine V.leave_any (.inl rfl) (V.res_tmp rfl rfl s2) ?_
 exact ⟨by rw [Q.num_len], hb⟩
theorem Div_n {A A' B B' : Option Addr} {c c' e e' : Nat} {q r : Rat} {w : World} {k l : Nat} (h1 : R16 w A (Lb.limbs (Q.m q)).length c (Lb.limbs (Q.m q))) (h2 : R16 w A' (Lb.limbs q.den).length c' (Lb.limbs q.den)) (h3 : R16 w B (Lb.limbs (Q.m r)).length e (Lb.limbs (Q.m r))) (h4 : R16 w B' (Lb.limbs r.den).length e' (Lb.limbs r.den)) (hq : Q.Sz k q) (hr : Q.Sz l r) (hk : k ≤ 256) (hl : l ≤ 256) (hs : Q.Sz 256 (q * (r)⁻¹)) (h0 : r ≠ 0) :
    Calls Tryz.prog 133 #[.agg #[.bool (Q.neg q), Vs A (Q.m q) c, .bool false, Vs A' q.den c'], .agg #[.bool (Q.neg r), Vs B (Q.m r) e, .bool false, Vs B' r.den e']] w (TupF w (Q.neg (q * (r)⁻¹)) (Q.m (q * (r)⁻¹)) (q * (r)⁻¹).den) := by
 refine V.nt Tryz.func133 rfl rfl fun f0 hf => ?_
 have s0 : f0 0 = .agg #[.bool (Q.neg q), Vs A (Q.m q) c, .bool false, Vs A' q.den c'] := hf 0 (by simp)
 have s1 : f0 1 = .agg #[.bool (Q.neg r), Vs B (Q.m r) e, .bool false, Vs B' r.den e'] := hf 1 (by simp)
 clear hf
 have hb := Below.refl w.heap.size w
 refine V.seq ?_
 refine V.reg 4 [V.Nb w 39 #[.bool (Q.neg q), Vs A (Q.m q) c, .bool false, Vs A' q.den c'], V.Nb w 39 #[.bool (Q.neg r), Vs B (Q.m r) e, .bool false, Vs B' r.den e'], V.Nb w 39 #[.bool false, .slice none 0 0, .bool false, .slice none 0 0], V.E (.int .i64 0)] [0, 1, 2] (V.i h1 (V.i h2 (V.i h3 (V.i h4 hb)))) ?_ ?_
 ·refine V.a4 ?_ ?_ ?_ ?_
  ·exact V.sn rfl fun f W h => V.x_box (V.eo h 0 s0)
  ·exact V.sn rfl fun f W h => V.x_box (V.eo h 1 s1)
  ·exact V.sn rfl fun f W h => V.x_alloc
  ·exact V.z1 rfl fun h => V.xs rfl
 have o_bel := hb.size
 intro f185 W186 e187
 clear h1 h2 h3 h4 hb
 obtain ⟨⟨h1, h2, h3, h4, hb⟩, z_⟩ := e187.g
 obtain ⟨s0, s1⟩ := V.e2 e187 s0 s1
 obtain ⟨g182, s2, bg182, lg182⟩ := V.eq e187 0 2 rfl
 obtain ⟨g183, s3, bg183, lg183⟩ := V.eq e187 1 3 rfl
 obtain ⟨g184, s4, bg184, lg184⟩ := V.eq e187 2 4 rfl
 have mg184 := Nat.le_trans o_bel lg184
 have q182_184 : g182 ≠ g184 := V.ep e187 0 2 2 4 s2 s4
 have q183_184 : g183 ≠ g184 := V.ep e187 1 2 3 4 s3 s4
 have s5 := V.es e187 3 5 rfl
 clear e187 z_
 clear o_bel
 refine V.t_done rfl (V.nx (V.seq (V.block (V.seq ?_))))
 refine V.reg 6 [V.E (.agg #[.bool (Q.neg q), Vs A (Q.m q) c, .bool false, Vs A' q.den c']), V.E (.agg #[.bool (Q.neg r), Vs B (Q.m r) e, .bool false, Vs B' r.den e']), (fun v W => ∃ g188 : Nat, v = .slice (some ⟨g188, 0, none⟩) 2 2 ∧ Blk W g188 39 #[.bool (Q.neg q), Vs A (Q.m q) c, .bool false, Vs A' q.den c', .bool (Q.neg r), Vs B (Q.m r) e, .bool false, Vs B' r.den e'] ∧ (w.heap.size ≤ g188)), V.E (.bool true), V.E (.bool false), V.E (.bool false)] [] (V.i h1 (V.i h2 (V.i h3 (V.i h4 (V.i hb (V.i bg182 (V.i bg183 bg184))))))) ?_ ?_
 ·refine V.a6 ?_ ?_ ?_ ?_ ?_ ?_
  ·exact V.z1 rfl fun h => V.xl (V.eo h 2 s2) (V.lr h.g.1.2.2.2.2.2.1 Tryz.underlying39)
  ·exact V.z1 rfl fun h => V.xl (V.eo h 3 s3) (V.lr h.g.1.2.2.2.2.2.2.1 Tryz.underlying39)
  ·refine V.s2 rfl fun f W h => ?_
   exact V.valv (.slice (some ⟨W.heap.size, 0, none⟩) 2 2) (V.c2 (V.ed h 0 7 rfl) (V.ed h 1 8 rfl)) ⟨⟨W.heap.size, rfl, Blk.new W 39 #[.bool (Q.neg q), Vs A (Q.m q) c, .bool false, Vs A' q.den c', .bool (Q.neg r), Vs B (Q.m r) e, .bool false, Vs B' r.den e'], h.g.1.2.2.2.2.1.size⟩, (Below.refl _ _).alloc (Nat.le_refl _) _⟩
  ·refine V.s2 rfl fun f W h => ?_
   obtain ⟨g188, a9, k2_0, p2_0⟩ := V.dp h 2 9 (by kernel_rfl) rfl
   refine V.call en53 (V.args1 (V.ev_tmp rfl a9)) (Calls.mono (valid2_q h.g.1.1 h.g.1.2.1 h.g.1.2.2.1 h.g.1.2.2.2.1 k2_0 (hq.mono hk) (hr.mono hl)) ?_)
   rintro e W' ⟨rfl, hb⟩
   exact ⟨_, rfl, rfl, hb⟩
  ·exact V.z1 rfl fun h => V.x_un (V.ed h 3 10 rfl)
  ·exact V.se rfl 4 11 rfl
 intro f189 W190 e191
 clear h1 h2 h3 h4 hb bg182 bg183 bg184
 obtain ⟨⟨h1, h2, h3, h4, hb, bg182, bg183, bg184⟩, z_⟩ := e191.g
 obtain ⟨s0, s1, s2, s3, s4, s5⟩ := V.e6 e191 s0 s1 s2 s3 s4 s5
 have s6 := V.es e191 5 6 rfl
 clear e191 z_
 refine V.t_done rfl (V.nx ?_)
 refine V.cond_f (V.ev_tmp rfl s6) ?_
 refine V.seq ?_
 refine V.reg 4 [V.E (.agg #[.bool (Q.neg r), Vs B (Q.m r) e, .bool false, Vs B' r.den e']), V.E (.agg #[.bool (Q.neg r), Vs B (Q.m r) e, .bool false, Vs B' r.den e']), V.E (.bool (decide (r = 0))), V.E (.bool (decide (r = 0)))] [] (V.i h1 (V.i h2 (V.i h3 (V.i h4 (V.i hb (V.i bg182 (V.i bg183 bg184))))))) ?_ ?_
 ·refine V.a4 ?_ ?_ ?_ ?_
  ·exact V.z1 rfl fun h => V.xl (V.eo h 3 s3) (V.lr h.g.1.2.2.2.2.2.2.1 Tryz.underlying39)
  ·exact V.z1 rfl fun h => V.b1 (V.ed h 0 14 rfl)
  ·refine V.s2 rfl fun f W h => ?_
   refine V.call en168 (V.args1 (V.ed h 1 15 rfl)) (Calls.mono (zero_q) ?_)
   rintro e W' ⟨rfl, hb⟩
   exact ⟨_, rfl, rfl, hb⟩
  ·exact V.se rfl 2 16 rfl
 intro f192 W193 e194
 clear h1 h2 h3 h4 hb bg182 bg183 bg184
 obtain ⟨⟨h1, h2, h3, h4, hb, bg182, bg183, bg184⟩, z_⟩ := e194.g
 obtain ⟨s0, s1, s2, s3, s4, s5⟩ := V.e6 e194 s0 s1 s2 s3 s4 s5
 have s13 := V.es e194 3 13 rfl
 clear e194 z_
 refine V.t_done rfl (V.nx ?_)
 have s13_ : f192 13 = .bool false := s13.trans (congrArg Value.bool (decide_eq_false h0))
 refine V.cond_f (V.ev_tmp rfl s13_) ?_
 refine V.skip ?_
 refine V.bn (V.nx (V.seq ?_))
 refine V.reg 9 [V.E (.agg #[.bool (Q.neg q), Vs A (Q.m q) c, .bool false, Vs A' q.den c']), V.E (.agg #[.bool (Q.neg q), Vs A (Q.m q) c, .bool false, Vs A' q.den c']), V.E (.agg #[.bool (Q.neg r), Vs B (Q.m r) e, .bool false, Vs B' r.den e']), V.E (.agg #[.bool (Q.neg r), Vs B (Q.m r) e, .bool false, Vs B' r.den e']), (fun v W => ∃ A195 : Option Addr, ∃ c196 : Nat, ∃ A197 : Option Addr, ∃ c198 : Nat, v = .agg #[.bool (Q.neg ((r)⁻¹)), .slice A195 (Lb.limbs (Q.m ((r)⁻¹))).length c196, .bool false, .slice A197 (Lb.limbs (((r)⁻¹).den)).length c198] ∧ R16 W A195 ((Lb.limbs (Q.m ((r)⁻¹))).length) c196 (Lb.limbs (Q.m ((r)⁻¹))) ∧ R16 W A197 ((Lb.limbs (((r)⁻¹).den)).length) c198 (Lb.limbs (((r)⁻¹).den))), (fun v W => ∃ A201 : Option Addr, ∃ c202 : Nat, ∃ A203 : Option Addr, ∃ c204 : Nat, v = .agg #[.bool (Q.neg (q * (r)⁻¹)), .slice A201 (Lb.limbs (Q.m (q * (r)⁻¹))).length c202, .bool false, .slice A203 (Lb.limbs ((q * (r)⁻¹).den)).length c204] ∧ R16 W A201 ((Lb.limbs (Q.m (q * (r)⁻¹))).length) c202 (Lb.limbs (Q.m (q * (r)⁻¹))) ∧ R16 W A203 ((Lb.limbs ((q * (r)⁻¹).den)).length) c204 (Lb.limbs ((q * (r)⁻¹).den)) ∧ (∀ ad, A201 = some ad → w.heap.size ≤ ad.block) ∧ (∀ ad, A203 = some ad → w.heap.size ≤ ad.block)), (fun v W => ∃ A209 : Option Addr, ∃ c210 : Nat, ∃ A211 : Option Addr, ∃ c212 : Nat, v = .tuple #[.agg #[.bool (Q.neg (q * (r)⁻¹)), .slice A209 (Lb.limbs (Q.m (q * (r)⁻¹))).length c210, .bool false, .slice A211 (Lb.limbs ((q * (r)⁻¹).den)).length c212], .int .i64 0] ∧ R16 W A209 ((Lb.limbs (Q.m (q * (r)⁻¹))).length) c210 (Lb.limbs (Q.m (q * (r)⁻¹))) ∧ R16 W A211 ((Lb.limbs ((q * (r)⁻¹).den)).length) c212 (Lb.limbs ((q * (r)⁻¹).den)) ∧ (∀ ad, A209 = some ad → w.heap.size ≤ ad.block) ∧ (∀ ad, A211 = some ad → w.heap.size ≤ ad.block)), (fun v W => ∃ A213 : Option Addr, ∃ c214 : Nat, ∃ A215 : Option Addr, ∃ c216 : Nat, v = .agg #[.bool (Q.neg (q * (r)⁻¹)), .slice A213 (Lb.limbs (Q.m (q * (r)⁻¹))).length c214, .bool false, .slice A215 (Lb.limbs ((q * (r)⁻¹).den)).length c216] ∧ R16 W A213 ((Lb.limbs (Q.m (q * (r)⁻¹))).length) c214 (Lb.limbs (Q.m (q * (r)⁻¹))) ∧ R16 W A215 ((Lb.limbs ((q * (r)⁻¹).den)).length) c216 (Lb.limbs ((q * (r)⁻¹).den)) ∧ (∀ ad, A213 = some ad → w.heap.size ≤ ad.block) ∧ (∀ ad, A215 = some ad → w.heap.size ≤ ad.block)), V.E (.int .i64 0)] [] (V.i h1 (V.i h2 (V.i h3 (V.i h4 (V.i hb (V.i bg182 (V.i bg183 bg184))))))) ?_ ?_
 ·refine V.b8 ?_ ?_ ?_ ?_ ?_ ?_ ?_ ?_ (V.ac ?_ V.an)
  ·exact V.z1 rfl fun h => V.xl (V.eo h 2 s2) (V.lr h.g.1.2.2.2.2.2.1 Tryz.underlying39)
  ·exact V.z1 rfl fun h => V.b1 (V.ed h 0 18 rfl)
  ·exact V.z1 rfl fun h => V.xl (V.eo h 3 s3) (V.lr h.g.1.2.2.2.2.2.2.1 Tryz.underlying39)
  ·exact V.z1 rfl fun h => V.b1 (V.ed h 2 20 rfl)
  ·refine V.s2 rfl fun f W h => ?_
   refine V.call en169 (V.args1 (V.ed h 3 21 rfl)) (Calls.mono (reciprocal_q h.g.1.2.2.1 h.g.1.2.2.2.1 ⟨hr, by omega, h0⟩) ?_)
   rintro e W' ⟨A195, c196, A197, c198, rfl, k199, k200, hb⟩
   exact ⟨_, rfl, ⟨A195, c196, A197, c198, rfl, k199, k200⟩, hb⟩
  ·refine V.s2 rfl fun f W h => ?_
   obtain ⟨A195, c196, A197, c198, a22, k4_0, k4_1⟩ := V.dp h 4 22 (by kernel_rfl) rfl
   refine V.call en64 (V.args2 (V.ed h 1 19 rfl) (V.ev_tmp rfl a22)) (Calls.mono (times_q h.g.1.1 h.g.1.2.1 k4_0 k4_1 hq (hr.inv h0) (by omega)) ?_)
   rintro e W' ⟨A201, c202, A203, c204, rfl, k205, k207, p206, p208, hb⟩
   exact ⟨_, rfl, ⟨A201, c202, A203, c204, rfl, k205, k207, (fun ad e => Nat.le_trans h.g.1.2.2.2.2.1.size (p206 ad e)), (fun ad e => Nat.le_trans h.g.1.2.2.2.2.1.size (p208 ad e))⟩, hb⟩
  ·refine V.s2 rfl fun f W h => ?_
   obtain ⟨A201, c202, A203, c204, a23, k5_0, k5_1, p5_0, p5_1⟩ := V.dp h 5 23 (by kernel_rfl) rfl
   refine V.call en51 (V.args1 (V.ev_tmp rfl a23)) (Calls.mono (told_ok (Q.Sz.fits hs)) ?_)
   rintro e W' ⟨rfl, hb⟩
   exact ⟨_, rfl, ⟨A201, c202, A203, c204, rfl, (k5_0.below hb (Nat.le_refl _)), (k5_1.below hb (Nat.le_refl _)), p5_0, p5_1⟩, hb⟩
  ·refine V.s2 rfl fun f W h => ?_
   obtain ⟨A209, c210, A211, c212, a24, k6_0, k6_1, p6_0, p6_1⟩ := V.dp h 6 24 (by kernel_rfl) rfl
   exact V.v2 (.agg #[.bool (Q.neg (q * (r)⁻¹)), .slice A209 (Lb.limbs (Q.m (q * (r)⁻¹))).length c210, .bool false, .slice A211 (Lb.limbs ((q * (r)⁻¹).den)).length c212]) (V.xe (V.ev_tmp rfl a24)) ⟨A209, c210, A211, c212, rfl, k6_0, k6_1, p6_0, p6_1⟩
  ·refine V.s1 rfl fun f W h => ?_
   obtain ⟨A209, c210, A211, c212, a24, k6_0, k6_1, p6_0, p6_1⟩ := V.dp h 6 24 (by kernel_rfl) rfl
   exact V.xe (V.ev_tmp rfl a24)
 intro f217 W218 e219
 clear h1 h2 h3 h4 hb bg182 bg183 bg184
 obtain ⟨⟨h1, h2, h3, h4, hb, bg182, bg183, bg184⟩, z_⟩ := e219.g
 obtain ⟨s0, s1, s4, s5⟩ := V.e4 e219 s0 s1 s4 s5
 obtain ⟨A213, c214, A215, c216, s25, r220, r221, n222, n223⟩ := V.eq e219 7 25 rfl
 have s26 := V.es e219 8 26 rfl
 clear e219 z_
 refine V.tsr (k := 9) rfl s4 s25 bg184 fun W224 hs b' => ?_
 replace h1 := hs.r16 h1
 replace h2 := hs.r16 h2
 replace h3 := hs.r16 h3
 replace h4 := hs.r16 h4
 replace hb := hs.bel hb mg184
 replace bg182 := hs.blk bg182 q182_184
 replace bg183 := hs.blk bg183 q183_184
 replace r220 := hs.r16 r220
 replace r221 := hs.r16 r221
 replace bg184 := b'
 clear hs b'
 refine V.t_val (k := 10) (v := .int .i64 0) (t := 5) rfl rfl rfl (by kernel_rfl) trivial (V.xs (V.ev_tmp rfl s26)) ?_
 intro f225 e226 u227
 replace s0 : f225 0 = .agg #[.bool (Q.neg q), Vs A (Q.m q) c, .bool false, Vs A' q.den c'] := (u227 0 (by decide)).trans s0
 replace s1 : f225 1 = .agg #[.bool (Q.neg r), Vs B (Q.m r) e, .bool false, Vs B' r.den e'] := (u227 1 (by decide)).trans s1
 replace s4 : f225 4 = Vp g184 0 := (u227 4 (by decide)).trans s4
 replace s25 : f225 25 = .agg #[.bool (Q.neg (q * (r)⁻¹)), .slice A213 (Lb.limbs (Q.m (q * (r)⁻¹))).length c214, .bool false, .slice A215 (Lb.limbs ((q * (r)⁻¹).den)).length c216] := (u227 25 (by decide)).trans s25
 replace s26 : f225 26 = .int .i64 0 := (u227 26 (by decide)).trans s26
 have s5 := e226
 clear u227
 refine V.t_done rfl (V.nx (V.ret ?_))
 refine V.leave_any (.inl rfl) (V.res_cellTmp rfl rfl rfl s4 s5 (V.lr bg184 Tryz.underlying39 rfl (by kernel_rfl))) ?_
 exact ⟨A213, c214, A215, c216, rfl, r220, r221, n222, n223, hb⟩
theorem cmpZ_cross (q r : Rat) : cmpZ (q.num * r.den) (r.num * q.den) = Q.cmp q r := by
  unfold cmpZ Q.cmp
  simp only [← Q.cross_lt, ← Q.cross_eq]
theorem Cmp_q {A A' B B' : Option Addr} {c c' e e' : Nat} {q r : Rat} {w : World} {k l : Nat} (h1 : R16 w A (Lb.limbs (Q.m q)).length c (Lb.limbs (Q.m q))) (h2 : R16 w A' (Lb.limbs q.den).length c' (Lb.limbs q.den)) (h3 : R16 w B (Lb.limbs (Q.m r)).length e (Lb.limbs (Q.m r))) (h4 : R16 w B' (Lb.limbs r.den).length e' (Lb.limbs r.den)) (hq : Q.Sz k q) (hr : Q.Sz l r) (hk : k ≤ 256) (hl : l ≤ 256) :
    Calls Tryz.prog 19 #[.agg #[.bool (Q.neg q), Vs A (Q.m q) c, .bool false, Vs A' q.den c'], .agg #[.bool (Q.neg r), Vs B (Q.m r) e, .bool false, Vs B' r.den e']] w fun e w' => e = .returned (.int .i64 (Q.cmp q r)) ∧ Below w.heap.size w w' := by
 have k1 : Nv (Q.neg q) (Q.m q) := nv_mk hq.n (by omega) Q.neg_zero
 have k2 : Nv false q.den := nv_mk hq.d (by omega) (fun _ => rfl)
 have k3 : Nv (Q.neg r) (Q.m r) := nv_mk hr.n (by omega) Q.neg_zero
 have k4 : Nv false r.den := nv_mk hr.d (by omega) (fun _ => rfl)
 have k5 : Nv (decide (q.num * r.den < 0)) (q.num * r.den).natAbs := nv_mk (by rw [Int.natAbs_mul, Int.natAbs_natCast]; exact Q.mul_lt hq.n hr.d) (by omega) Q.zneg
 have k6 : Nv (decide (r.num * q.den < 0)) (r.num * q.den).natAbs := nv_mk (by rw [Int.natAbs_mul, Int.natAbs_natCast]; exact Q.mul_lt hr.n hq.d) (by omega) Q.zneg
 refine V.nt Tryz.func19 rfl rfl fun f0 hf => ?_
 have s0 : f0 0 = .agg #[.bool (Q.neg q), Vs A (Q.m q) c, .bool false, Vs A' q.den c'] := hf 0 (by simp)
 have s1 : f0 1 = .agg #[.bool (Q.neg r), Vs B (Q.m r) e, .bool false, Vs B' r.den e'] := hf 1 (by simp)
 clear hf
 have hb := Below.refl w.heap.size w
 refine V.seq ?_
 refine V.reg 3 [V.Nb w 39 #[.bool (Q.neg q), Vs A (Q.m q) c, .bool false, Vs A' q.den c'], V.Nb w 39 #[.bool (Q.neg r), Vs B (Q.m r) e, .bool false, Vs B' r.den e'], V.E (.int .i64 0)] [0, 1] (V.i h1 (V.i h2 (V.i h3 (V.i h4 hb)))) ?_ ?_
 ·refine V.a3 ?_ ?_ ?_
  ·exact V.sn rfl fun f W h => V.x_box (V.eo h 0 s0)
  ·exact V.sn rfl fun f W h => V.x_box (V.eo h 1 s1)
  ·exact V.z1 rfl fun h => V.xs rfl
 have o_bel := hb.size
 intro f230 W231 e232
 clear h1 h2 h3 h4 hb
 obtain ⟨⟨h1, h2, h3, h4, hb⟩, z_⟩ := e232.g
 obtain ⟨s0, s1⟩ := V.e2 e232 s0 s1
 obtain ⟨g228, s2, bg228, lg228⟩ := V.eq e232 0 2 rfl
 obtain ⟨g229, s3, bg229, lg229⟩ := V.eq e232 1 3 rfl
 have s4 := V.es e232 2 4 rfl
 clear e232 z_
 clear o_bel
 refine V.t_done rfl (V.nx (V.seq (V.seq ?_)))
 refine V.reg 5 [V.E (.agg #[.bool (Q.neg q), Vs A (Q.m q) c, .bool false, Vs A' q.den c']), V.E (.agg #[.bool (Q.neg r), Vs B (Q.m r) e, .bool false, Vs B' r.den e']), (fun v W => ∃ g233 : Nat, v = .slice (some ⟨g233, 0, none⟩) 2 2 ∧ Blk W g233 39 #[.bool (Q.neg q), Vs A (Q.m q) c, .bool false, Vs A' q.den c', .bool (Q.neg r), Vs B (Q.m r) e, .bool false, Vs B' r.den e'] ∧ (w.heap.size ≤ g233)), V.E (.bool true), V.E (.bool false)] [] (V.i h1 (V.i h2 (V.i h3 (V.i h4 (V.i hb (V.i bg228 bg229)))))) ?_ ?_
 ·refine V.a5 ?_ ?_ ?_ ?_ ?_
  ·exact V.z1 rfl fun h => V.xl (V.eo h 2 s2) (V.lr h.g.1.2.2.2.2.2.1 Tryz.underlying39)
  ·exact V.z1 rfl fun h => V.xl (V.eo h 3 s3) (V.lr h.g.1.2.2.2.2.2.2 Tryz.underlying39)
  ·refine V.s2 rfl fun f W h => ?_
   exact V.valv (.slice (some ⟨W.heap.size, 0, none⟩) 2 2) (V.c2 (V.ed h 0 5 rfl) (V.ed h 1 6 rfl)) ⟨⟨W.heap.size, rfl, Blk.new W 39 #[.bool (Q.neg q), Vs A (Q.m q) c, .bool false, Vs A' q.den c', .bool (Q.neg r), Vs B (Q.m r) e, .bool false, Vs B' r.den e'], h.g.1.2.2.2.2.1.size⟩, (Below.refl _ _).alloc (Nat.le_refl _) _⟩
  ·refine V.s2 rfl fun f W h => ?_
   obtain ⟨g233, a7, k2_0, p2_0⟩ := V.dp h 2 7 (by kernel_rfl) rfl
   refine V.call en53 (V.args1 (V.ev_tmp rfl a7)) (Calls.mono (valid2_q h.g.1.1 h.g.1.2.1 h.g.1.2.2.1 h.g.1.2.2.2.1 k2_0 (hq.mono hk) (hr.mono hl)) ?_)
   rintro e W' ⟨rfl, hb⟩
   exact ⟨_, rfl, rfl, hb⟩
  ·exact V.z1 rfl fun h => V.x_un (V.ed h 3 8 rfl)
 intro f234 W235 e236
 clear h1 h2 h3 h4 hb bg228 bg229
 obtain ⟨⟨h1, h2, h3, h4, hb, bg228, bg229⟩, z_⟩ := e236.g
 obtain ⟨s0, s1, s2, s3, s4⟩ := V.e5 e236 s0 s1 s2 s3 s4
 have s9 := V.es e236 4 9 rfl
 clear e236 z_
 refine V.t_done rfl (V.nx ?_)
 refine V.cond_f (V.ev_tmp rfl s9) ?_
 refine V.skip ?_
 refine V.nx (V.seq ?_)
 refine V.reg 12 [V.E (Vp g228 0), V.E (.agg #[.bool (Q.neg q), Vs A (Q.m q) c]), V.E (Vp g229 2), V.E (.agg #[.bool false, Vs B' r.den e']), (fun v W => ∃ A237 : Option Addr, ∃ c238 : Nat, v = .agg #[.bool (decide (q.num * r.den < 0)), Vs A237 ((q.num * r.den).natAbs) c238] ∧ R16 W A237 ((Lb.limbs ((q.num * r.den).natAbs)).length) c238 (Lb.limbs ((q.num * r.den).natAbs)) ∧ (∀ ad, A237 = some ad → w.heap.size ≤ ad.block)), V.E (Vp g229 0), V.E (.agg #[.bool (Q.neg r), Vs B (Q.m r) e]), V.E (Vp g228 2), V.E (.agg #[.bool false, Vs A' q.den c']), (fun v W => ∃ A241 : Option Addr, ∃ c242 : Nat, v = .agg #[.bool (decide (r.num * q.den < 0)), Vs A241 ((r.num * q.den).natAbs) c242] ∧ R16 W A241 ((Lb.limbs ((r.num * q.den).natAbs)).length) c242 (Lb.limbs ((r.num * q.den).natAbs)) ∧ (∀ ad, A241 = some ad → w.heap.size ≤ ad.block)), V.E (.int .i64 (cmpZ (sgn (decide (q.num * r.den < 0)) ((q.num * r.den).natAbs)) (sgn (decide (r.num * q.den < 0)) ((r.num * q.den).natAbs)))), V.E (.int .i64 (cmpZ (sgn (decide (q.num * r.den < 0)) ((q.num * r.den).natAbs)) (sgn (decide (r.num * q.den < 0)) ((r.num * q.den).natAbs))))] [] (V.i h1 (V.i h2 (V.i h3 (V.i h4 (V.i hb (V.i bg228 bg229)))))) ?_ ?_
 ·refine V.b8 ?_ ?_ ?_ ?_ ?_ ?_ ?_ ?_ (V.a4 ?_ ?_ ?_ ?_)
  ·exact V.z1 rfl fun h => V.xa (V.eo h 2 s2)
  ·exact V.z1 rfl fun h => V.xl (V.ed h 0 10 rfl) (V.ld_mid (xs := [.bool (Q.neg q), Vs A (Q.m q) c]) h.g.1.2.2.2.2.2.1 (by intro j hj; match j, hj with | 0, _ => rfl | 1, _ => rfl) Tryz.underlying35)
  ·exact V.z1 rfl fun h => V.xa (V.eo h 3 s3)
  ·exact V.z1 rfl fun h => V.xl (V.ed h 2 12 rfl) (V.ld_mid (xs := [.bool false, Vs B' r.den e']) h.g.1.2.2.2.2.2.2 (by intro j hj; match j, hj with | 0, _ => rfl | 1, _ => rfl) Tryz.underlying35)
  ·refine V.s2 rfl fun f W h => ?_
   refine V.call en56 (V.args2 (V.ed h 1 11 rfl) (V.ed h 3 13 rfl)) (Calls.mono (product_nn (decide (q.num * r.den < 0)) ((q.num * r.den).natAbs) h.g.1.1 h.g.1.2.2.2.1 k1 k4 k5 (by rw [Q.sgn_z, Q.sgn_num]; rfl)) ?_)
   rintro e W' ⟨A237, c238, rfl, k239, p240, hb⟩
   exact ⟨_, rfl, ⟨A237, c238, rfl, k239, (fun ad e => Nat.le_trans h.g.1.2.2.2.2.1.size (p240 ad e))⟩, hb⟩
  ·exact V.z1 rfl fun h => V.xa (V.eo h 3 s3)
  ·exact V.z1 rfl fun h => V.xl (V.ed h 5 15 rfl) (V.ld_mid (xs := [.bool (Q.neg r), Vs B (Q.m r) e]) h.g.1.2.2.2.2.2.2 (by intro j hj; match j, hj with | 0, _ => rfl | 1, _ => rfl) Tryz.underlying35)
  ·exact V.z1 rfl fun h => V.xa (V.eo h 2 s2)
  ·exact V.z1 rfl fun h => V.xl (V.ed h 7 17 rfl) (V.ld_mid (xs := [.bool false, Vs A' q.den c']) h.g.1.2.2.2.2.2.1 (by intro j hj; match j, hj with | 0, _ => rfl | 1, _ => rfl) Tryz.underlying35)
  ·refine V.s2 rfl fun f W h => ?_
   refine V.call en56 (V.args2 (V.ed h 6 16 rfl) (V.ed h 8 18 rfl)) (Calls.mono (product_nn (decide (r.num * q.den < 0)) ((r.num * q.den).natAbs) h.g.1.2.2.1 h.g.1.2.1 k3 k2 k6 (by rw [Q.sgn_z, Q.sgn_num]; rfl)) ?_)
   rintro e W' ⟨A241, c242, rfl, k243, p244, hb⟩
   exact ⟨_, rfl, ⟨A241, c242, rfl, k243, (fun ad e => Nat.le_trans h.g.1.2.2.2.2.1.size (p244 ad e))⟩, hb⟩
  ·refine V.s2 rfl fun f W h => ?_
   obtain ⟨A237, c238, a14, k4_0, p4_0⟩ := V.dp h 4 14 (by kernel_rfl) rfl
   obtain ⟨A241, c242, a19, k9_0, p9_0⟩ := V.dp h 9 19 (by kernel_rfl) rfl
   refine V.call en55 (V.args2 (V.ev_tmp rfl a14) (V.ev_tmp rfl a19)) (Calls.mono ((Cmp_nn k4_0 k9_0 k5 k6)) ?_)
   rintro e W' ⟨rfl, hb⟩
   exact ⟨_, rfl, rfl, hb⟩
  ·exact V.se rfl 10 20 rfl
 intro f245 W246 e247
 clear h1 h2 h3 h4 hb bg228 bg229
 obtain ⟨⟨h1, h2, h3, h4, hb, bg228, bg229⟩, z_⟩ := e247.g
 obtain ⟨s0, s1⟩ := V.e2 e247 s0 s1
 have s4 := V.es e247 11 4 rfl
 clear e247 z_
 refine V.t_done rfl (V.nx (V.ret ?_))
 refine V.leave_any (.inl rfl) (V.res_tmp rfl rfl s4) ?_
 exact ⟨by rw [Q.sgn_z, Q.sgn_z, cmpZ_cross], hb⟩
end Go.Proofs.YtjbcalbbhomkjaaGreat
