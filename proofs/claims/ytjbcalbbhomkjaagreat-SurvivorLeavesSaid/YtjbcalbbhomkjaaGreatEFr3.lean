import Derived.Test.YtjbcalbbhomkjaaGreatEFr2
import Derived.Test.YtjbcalbbhomkjaaGreatEFromInt
set_option maxRecDepth 20000
set_option maxHeartbeats 2000000
namespace Go.Proofs.YtjbcalbbhomkjaaGreat
open Go.RowKit
attribute [local irreducible] RI.frame RI.act RI.Ob RI.Tail RI.out V.Wp V.Fn Oper.wp
theorem en25 : En 25 := en_ Tryz.func25
theorem en47 : En 47 := en_ Tryz.func47
theorem en57 : En 57 := en_ Tryz.func57
theorem en62 : En 62 := en_ Tryz.func62
theorem en92 : En 92 := en_ Tryz.func92
theorem en93 : En 93 := en_ Tryz.func93
theorem en127 : En 127 := en_ Tryz.func127
theorem FromInt_f {x : Int} {w : World} (h0 : -9223372036854775808 ≤ x) (h1 : x ≤ 9223372036854775807) :
    Calls Tryz.prog 20 #[.int .i64 x] w (RetF w (decide (x < 0)) x.natAbs 1) := by
 refine V.nt Tryz.func20 rfl rfl fun f0 hf => ?_
 have s0 : f0 0 = .int .i64 x := hf 0 (by simp)
 clear hf
 have hb := Below.refl w.heap.size w
 refine V.seq ?_
 refine V.reg 1 [V.Nb w 39 #[.bool false, .slice none 0 0, .bool false, .slice none 0 0]] [0] hb ?_ ?_
 ·refine V.ac ?_ V.an
  ·exact V.sn rfl fun f W h => V.x_alloc
 have o_bel := hb.size
 intro f2 W3 e4
 clear hb
 obtain ⟨hb, z_⟩ := e4.g
 replace s0 := V.e1 e4 s0
 obtain ⟨g1, s2, bg1, lg1⟩ := V.eq e4 0 2 rfl
 have mg1 := Nat.le_trans o_bel lg1
 clear e4 z_
 clear o_bel
 refine V.t_done rfl (V.nx (V.seq ?_))
 refine V.reg 4 [V.E (.int .i64 x), (fun v W => ∃ A5 : Option Addr, ∃ c6 : Nat, v = .agg #[.bool (decide (x < 0)), Vs A5 ((x).natAbs) c6] ∧ R16 W A5 ((Lb.limbs ((x).natAbs)).length) c6 (Lb.limbs ((x).natAbs)) ∧ (∀ ad, A5 = some ad → w.heap.size ≤ ad.block)), (fun v W => ∃ A9 : Option Addr, ∃ c10 : Nat, v = .agg #[.bool false, Vs A9 1 c10] ∧ R16 W A9 ((Lb.limbs 1).length) c10 (Lb.limbs 1) ∧ (∀ ad, A9 = some ad → w.heap.size ≤ ad.block)), (fun v W => ∃ A13 : Option Addr, ∃ c14 : Nat, ∃ A15 : Option Addr, ∃ c16 : Nat, v = .agg #[.bool (decide (x < 0)), Vs A13 ((x).natAbs) c14, .bool false, Vs A15 1 c16] ∧ R16 W A13 ((Lb.limbs ((x).natAbs)).length) c14 (Lb.limbs ((x).natAbs)) ∧ R16 W A15 ((Lb.limbs 1).length) c16 (Lb.limbs 1) ∧ (∀ ad, A13 = some ad → w.heap.size ≤ ad.block) ∧ (∀ ad, A15 = some ad → w.heap.size ≤ ad.block))] [] (V.i hb bg1) ?_ ?_
 ·refine V.a4 ?_ ?_ ?_ ?_
  ·exact V.mo rfl 0 s0
  ·refine V.s2 rfl fun f W h => ?_
   refine V.call en57 (V.args1 (V.ed h 0 3 rfl)) (Calls.mono (FromInt_nn x _ h0 h1) ?_)
   rintro e W' ⟨A5, c6, rfl, k7, p8, hb⟩
   exact ⟨_, rfl, ⟨A5, c6, rfl, k7, (fun ad e => Nat.le_trans h.g.1.1.size (p8 ad e))⟩, hb⟩
  ·refine V.s2 rfl fun f W h => ?_
   refine V.call en57 (V.args1 rfl) (Calls.mono (FromInt_one _) ?_)
   rintro e W' ⟨A9, c10, rfl, k11, p12, hb⟩
   exact ⟨_, rfl, ⟨A9, c10, rfl, k11, (fun ad e => Nat.le_trans h.g.1.1.size (p12 ad e))⟩, hb⟩
  ·refine V.s2 rfl fun f W h => ?_
   obtain ⟨A5, c6, a4, k1_0, p1_0⟩ := V.dp h 1 4 (by kernel_rfl) rfl
   obtain ⟨A9, c10, a5, k2_0, p2_0⟩ := V.dp h 2 5 (by kernel_rfl) rfl
   exact V.v2 (.agg #[.bool (decide (x < 0)), Vs A5 ((x).natAbs) c6, .bool false, Vs A9 1 c10]) (V.b2 (V.ev_tmp rfl a4) (V.ev_tmp rfl a5)) ⟨A5, c6, A9, c10, rfl, k1_0, k2_0, p1_0, p2_0⟩
 intro f17 W18 e19
 clear hb bg1
 obtain ⟨⟨hb, bg1⟩, z_⟩ := e19.g
 obtain ⟨s0, s2⟩ := V.e2 e19 s0 s2
 obtain ⟨A13, c14, A15, c16, s6, r20, r21, n22, n23⟩ := V.eq e19 3 6 rfl
 clear e19 z_
 refine V.tsr (k := 4) rfl s2 s6 bg1 fun W24 hs b' => ?_
 replace hb := hs.bel hb mg1
 replace r20 := hs.r16 r20
 replace r21 := hs.r16 r21
 replace bg1 := b'
 clear hs b'
 refine V.t_done rfl (V.nx (V.ret ?_))
 refine V.leave_any (.inl rfl) (V.res_cell rfl rfl s2 (V.lr bg1 Tryz.underlying39 rfl (by kernel_rfl))) ?_
 exact ⟨A13, c14, A15, c16, rfl, r20, r21, n22, n23, hb⟩
theorem FromInt_q {x : Int} {w : World} (h0 : -9223372036854775808 ≤ x) (h1 : x ≤ 9223372036854775807) :
    Calls Tryz.prog 20 #[.int .i64 x] w (RetF w (Q.neg (x : Rat)) (Q.m (x : Rat)) (x : Rat).den) := by
  rw [Q.int_neg, Q.int_m, Q.int_den]; exact FromInt_f h0 h1
theorem Valid_q {A A' : Option Addr} {c c' : Nat} {q : Rat} {w : World} (h1 : R16 w A (Lb.limbs (Q.m q)).length c (Lb.limbs (Q.m q))) (h2 : R16 w A' (Lb.limbs q.den).length c' (Lb.limbs q.den)) (hq : Q.Sz 256 q) :
    Calls Tryz.prog 25 #[.agg #[.bool (Q.neg q), Vs A (Q.m q) c, .bool false, Vs A' q.den c']] w fun e w' => e = .returned (.bool true) ∧ Below w.heap.size w w' := by
 have k1 : Nv (Q.neg q) (Q.m q) := nv_mk hq.n (by omega) Q.neg_zero
 have k2 : Nv false q.den := nv_mk hq.d (by omega) (fun _ => rfl)
 refine V.nt Tryz.func25 rfl rfl fun f0 hf => ?_
 have s0 : f0 0 = .agg #[.bool (Q.neg q), Vs A (Q.m q) c, .bool false, Vs A' q.den c'] := hf 0 (by simp)
 clear hf
 have hb := Below.refl w.heap.size w
 refine V.seq ?_
 refine V.reg 2 [V.Nb w 39 #[.bool (Q.neg q), Vs A (Q.m q) c, .bool false, Vs A' q.den c'], V.E (.bool false)] [0] (V.i h1 (V.i h2 hb)) ?_ ?_
 ·refine V.a2 ?_ ?_
  ·exact V.sn rfl fun f W h => V.x_box (V.eo h 0 s0)
  ·exact V.z1 rfl fun h => V.xs rfl
 have o_bel := hb.size
 intro f26 W27 e28
 clear h1 h2 hb
 obtain ⟨⟨h1, h2, hb⟩, z_⟩ := e28.g
 replace s0 := V.e1 e28 s0
 obtain ⟨g25, s1, bg25, lg25⟩ := V.eq e28 0 1 rfl
 have s2 := V.es e28 1 2 rfl
 clear e28 z_
 clear o_bel
 refine V.t_done rfl (V.nx (V.seq ?_))
 refine V.reg 3 [V.E (.agg #[.bool (Q.neg q), Vs A (Q.m q) c, .bool false, Vs A' q.den c']), V.E (.agg #[.bool (Q.neg q), Vs A (Q.m q) c, .bool false, Vs A' q.den c']), V.Nb W27 82 #[.bool false, .slice none 0 0, .bool false, .slice none 0 0]] [2] (V.i h1 (V.i h2 (V.i hb bg25))) ?_ ?_
 ·refine V.a3 ?_ ?_ ?_
  ·exact V.z1 rfl fun h => V.xl (V.eo h 1 s1) (V.lr h.g.1.2.2.2 Tryz.underlying39)
  ·exact V.z1 rfl fun h => V.b1 (V.ed h 0 4 rfl)
  ·exact V.sn rfl fun f W h => V.x_alloc
 have o_g25 := bg25.lt
 have o_bel := hb.size
 intro f30 W31 e32
 clear h1 h2 hb bg25
 obtain ⟨⟨h1, h2, hb, bg25⟩, z_⟩ := e32.g
 obtain ⟨s0, s2⟩ := V.e2 e32 s0 s2
 have s5 := V.es e32 1 5 rfl
 obtain ⟨g29, s3, bg29, lg29⟩ := V.eq e32 2 3 rfl
 have mg29 := Nat.le_trans o_bel lg29
 have q25_29 : g25 ≠ g29 := by omega
 clear e32 z_
 clear o_bel o_g25
 refine V.tsr (k := 3) rfl s3 s5 bg29 fun W33 hs b' => ?_
 replace h1 := hs.r16 h1
 replace h2 := hs.r16 h2
 replace hb := hs.bel hb mg29
 replace bg25 := hs.blk bg25 q25_29
 replace bg29 := b'
 clear hs b'
 refine V.t_done rfl (V.nx (V.seq (V.seq ?_)))
 clear bg25
 refine V.reg 31 [V.E (.agg #[.bool (Q.neg q), Vs A (Q.m q) c, .bool false, Vs A' q.den c']), V.E (.bool true), V.E (.bool false), V.E (.bool false), (V.Gd (!false) (V.E (Vp g29 0))), (V.Gd (!false) (V.E (Vp g29 0))), (V.Gd (!false) (V.E (.agg #[.bool (Q.neg q), Vs A (Q.m q) c]))), (V.Gd (!false) (V.E (.bool true))), (V.Gd (!false) (V.E (.bool false))), V.E (.bool false), V.E (.bool false), (V.Gd (!false) (V.E (Vp g29 0))), (V.Gd (!false) (V.E (Vp g29 2))), (V.Gd (!false) (V.E (.agg #[.bool false, Vs A' q.den c']))), (V.Gd (!false) (V.E (.bool true))), (V.Gd (!false) (V.E (.bool false))), V.E (.bool false), V.E (.bool false), (V.Gd (!false) (V.E (Vp g29 0))), (V.Gd (!false) (V.E (Vp g29 2))), (V.Gd (!false) (V.E (Vp g29 2))), (V.Gd (!false) (V.E (.bool false))), V.E (.bool false), V.E (.bool false), (V.Gd (!false) (V.E (Vp g29 0))), (V.Gd (!false) (V.E (Vp g29 2))), (V.Gd (!false) (V.E (Vp g29 3))), (V.Gd (!false) (V.E (Vs A' q.den c'))), (V.Gd (!false) (V.E (.int .i64 ((Lb.limbs q.den).length : Int)))), (V.Gd (!false) (V.E (.bool (((Lb.limbs q.den).length : Int) == (0 : Int))))), V.E (.bool (((Lb.limbs q.den).length : Int) == (0 : Int)))] [] (V.i h1 (V.i h2 (V.i hb bg29))) ?_ ?_
 ·refine V.b8 ?_ ?_ ?_ ?_ ?_ ?_ ?_ ?_ (V.b8 ?_ ?_ ?_ ?_ ?_ ?_ ?_ ?_ (V.b8 ?_ ?_ ?_ ?_ ?_ ?_ ?_ ?_ (V.a7 ?_ ?_ ?_ ?_ ?_ ?_ ?_)))
  ·exact V.z1 rfl fun h => V.xl (V.eo h 3 s3) (V.lr h.g.1.2.2.2 Tryz.underlying82)
  ·refine V.s2 rfl fun f W h => ?_
   refine V.call en61 (V.args1 (V.ed h 0 6 rfl)) (Calls.mono (fits_raw true hq.fits) ?_)
   rintro e W' ⟨rfl, hb⟩
   exact ⟨_, rfl, rfl, hb⟩
  ·exact V.z1 rfl fun h => V.x_un (V.ed h 1 7 rfl)
  ·exact V.me rfl 2 8 rfl
  ·exact V.gf 3 9 rfl rfl fun hp f W h => V.v1 (V.xa (V.eo h 3 s3))
  ·exact V.gf 3 9 rfl rfl fun hp f W h => V.v1 (V.xa (V.eg h 4 10 rfl hp))
  ·exact V.gf 3 9 rfl rfl fun hp f W h => V.v1 (V.xl (V.eg h 5 11 rfl hp) (V.ld_mid (xs := [.bool (Q.neg q), Vs A (Q.m q) c]) h.g.1.2.2.2 (by intro j hj; match j, hj with | 0, _ => rfl | 1, _ => rfl) Tryz.underlying35))
  ·refine V.gf 3 9 rfl rfl fun hp f W h => ?_
   refine V.call en47 (V.args1 (V.eg h 6 12 rfl hp)) (Calls.mono ((WValid_nn h.g.1.1 k1)) ?_)
   rintro e W' ⟨rfl, hb⟩
   exact ⟨_, rfl, rfl, hb⟩
  ·exact V.gf 3 9 rfl rfl fun hp f W h => V.v1 (V.x_un (V.eg h 7 13 rfl hp))
  ·refine V.s1 rfl fun f W h => ?_
   have d14 := V.dp h 8 14 (by kernel_rfl) rfl
   exact V.x_pick_f (V.ed h 3 9 rfl) (V.ev_tmp rfl (V.gd_on d14 rfl))
  ·exact V.me rfl 9 15 rfl
  ·exact V.gf 10 16 rfl rfl fun hp f W h => V.v1 (V.xa (V.eo h 3 s3))
  ·exact V.gf 10 16 rfl rfl fun hp f W h => V.v1 (V.xa (V.eg h 11 17 rfl hp))
  ·exact V.gf 10 16 rfl rfl fun hp f W h => V.v1 (V.xl (V.eg h 12 18 rfl hp) (V.ld_mid (xs := [.bool false, Vs A' q.den c']) h.g.1.2.2.2 (by intro j hj; match j, hj with | 0, _ => rfl | 1, _ => rfl) Tryz.underlying35))
  ·refine V.gf 10 16 rfl rfl fun hp f W h => ?_
   refine V.call en47 (V.args1 (V.eg h 13 19 rfl hp)) (Calls.mono ((WValid_nn h.g.1.2.1 k2)) ?_)
   rintro e W' ⟨rfl, hb⟩
   exact ⟨_, rfl, rfl, hb⟩
  ·exact V.gf 10 16 rfl rfl fun hp f W h => V.v1 (V.x_un (V.eg h 14 20 rfl hp))
  ·refine V.s1 rfl fun f W h => ?_
   have d21 := V.dp h 15 21 (by kernel_rfl) rfl
   exact V.x_pick_f (V.ed h 10 16 rfl) (V.ev_tmp rfl (V.gd_on d21 rfl))
  ·exact V.me rfl 16 22 rfl
  ·exact V.gf 17 23 rfl rfl fun hp f W h => V.v1 (V.xa (V.eo h 3 s3))
  ·exact V.gf 17 23 rfl rfl fun hp f W h => V.v1 (V.xa (V.eg h 18 24 rfl hp))
  ·exact V.gf 17 23 rfl rfl fun hp f W h => V.v1 (V.xa (V.eg h 19 25 rfl hp))
  ·exact V.gf 17 23 rfl rfl fun hp f W h => V.v1 (V.xl (V.eg h 20 26 rfl hp) (V.lo h.g.1.2.2.2 rfl))
  ·refine V.s1 rfl fun f W h => ?_
   have d27 := V.dp h 21 27 (by kernel_rfl) rfl
   exact V.x_pick_f (V.ed h 17 23 rfl) (V.ev_tmp rfl (V.gd_on d27 rfl))
  ·exact V.me rfl 22 28 rfl
  ·exact V.gf 23 29 rfl rfl fun hp f W h => V.v1 (V.xa (V.eo h 3 s3))
  ·exact V.gf 23 29 rfl rfl fun hp f W h => V.v1 (V.xa (V.eg h 24 30 rfl hp))
  ·exact V.gf 23 29 rfl rfl fun hp f W h => V.v1 (V.xa (V.eg h 25 31 rfl hp))
  ·exact V.gf 23 29 rfl rfl fun hp f W h => V.v1 (V.xl (V.eg h 26 32 rfl hp) (V.lo h.g.1.2.2.2 rfl))
  ·exact V.gf 23 29 rfl rfl fun hp f W h => V.v1 (V.x_len (V.eg h 27 33 rfl hp))
  ·exact V.gf 23 29 rfl rfl fun hp f W h => V.v1 (V.xb (V.eg h 28 34 rfl hp) rfl)
  ·refine V.s1 rfl fun f W h => ?_
   have d35 := V.dp h 29 35 (by kernel_rfl) rfl
   exact V.x_pick_f (V.ed h 23 29 rfl) (V.ev_tmp rfl (V.gd_on d35 rfl))
 intro f34 W35 e36
 clear h1 h2 hb bg29
 obtain ⟨⟨h1, h2, hb, bg29⟩, z_⟩ := e36.g
 obtain ⟨s0, s2, s3⟩ := V.e3 e36 s0 s2 s3
 have s36 := V.es e36 30 36 rfl
 clear e36 z_
 refine V.t_done rfl (V.nx ?_)
 have s36_ : f34 36 = .bool false := s36.trans (congrArg Value.bool (by simp [Q.den_len]))
 refine V.cond_f (V.ev_tmp rfl s36_) ?_
 refine V.skip ?_
 refine V.nx (V.seq ?_)
 refine V.reg 9 [V.E (Vp g29 0), V.E (Vp g29 0), V.E (.agg #[.bool (Q.neg q), Vs A (Q.m q) c]), V.E (Vp g29 0), V.E (Vp g29 2), V.E (.agg #[.bool false, Vs A' q.den c']), (fun v W => ∃ A37 : Option Addr, ∃ c38 : Nat, v = .agg #[.bool false, Vs A37 (Nat.gcd (Q.m q) q.den) c38] ∧ R16 W A37 ((Lb.limbs (Nat.gcd (Q.m q) q.den)).length) c38 (Lb.limbs (Nat.gcd (Q.m q) q.den)) ∧ (∀ ad, A37 = some ad → w.heap.size ≤ ad.block)), V.E (.bool (!false && decide ((Nat.gcd (Q.m q) q.den) = 1))), V.E (.bool (!false && decide ((Nat.gcd (Q.m q) q.den) = 1)))] [] (V.i h1 (V.i h2 (V.i hb bg29))) ?_ ?_
 ·refine V.b8 ?_ ?_ ?_ ?_ ?_ ?_ ?_ ?_ (V.ac ?_ V.an)
  ·exact V.z1 rfl fun h => V.xa (V.eo h 3 s3)
  ·exact V.z1 rfl fun h => V.xa (V.ed h 0 37 rfl)
  ·exact V.z1 rfl fun h => V.xl (V.ed h 1 38 rfl) (V.ld_mid (xs := [.bool (Q.neg q), Vs A (Q.m q) c]) h.g.1.2.2.2 (by intro j hj; match j, hj with | 0, _ => rfl | 1, _ => rfl) Tryz.underlying35)
  ·exact V.z1 rfl fun h => V.xa (V.eo h 3 s3)
  ·exact V.z1 rfl fun h => V.xa (V.ed h 3 40 rfl)
  ·exact V.z1 rfl fun h => V.xl (V.ed h 4 41 rfl) (V.ld_mid (xs := [.bool false, Vs A' q.den c']) h.g.1.2.2.2 (by intro j hj; match j, hj with | 0, _ => rfl | 1, _ => rfl) Tryz.underlying35)
  ·refine V.s2 rfl fun f W h => ?_
   refine V.call en48 (V.args2 (V.ed h 2 39 rfl) (V.ed h 5 42 rfl)) (Calls.mono ((common_nn h.g.1.1 h.g.1.2.1 k1 k2)) ?_)
   rintro e W' ⟨A37, c38, rfl, k39, p40, hb⟩
   exact ⟨_, rfl, ⟨A37, c38, rfl, k39, (fun ad e => Nat.le_trans h.g.1.2.2.1.size (p40 ad e))⟩, hb⟩
  ·refine V.s2 rfl fun f W h => ?_
   obtain ⟨A37, c38, a43, k6_0, p6_0⟩ := V.dp h 6 43 (by kernel_rfl) rfl
   refine V.call en62 (V.args1 (V.ev_tmp rfl a43)) (Calls.mono (isOne_nn k6_0) ?_)
   rintro e W' ⟨rfl, hb⟩
   exact ⟨_, rfl, rfl, hb⟩
  ·exact V.se rfl 7 44 rfl
 intro f41 W42 e43
 clear h1 h2 hb bg29
 obtain ⟨⟨h1, h2, hb, bg29⟩, z_⟩ := e43.g
 replace s0 := V.e1 e43 s0
 have s2 := V.es e43 8 2 rfl
 clear e43 z_
 refine V.t_done rfl (V.nx (V.ret ?_))
 refine V.leave_any (.inl rfl) (V.res_tmp rfl rfl s2) ?_
 exact ⟨by simp [Q.gcd_one], hb⟩
theorem valid1_q {A A' : Option Addr} {c c' : Nat} {q : Rat} {w : World} (h1 : R16 w A (Lb.limbs (Q.m q)).length c (Lb.limbs (Q.m q))) (h2 : R16 w A' (Lb.limbs q.den).length c' (Lb.limbs q.den)) (hq : Q.Sz 256 q) :
    Calls Tryz.prog 93 #[.agg #[.bool (Q.neg q), Vs A (Q.m q) c, .bool false, Vs A' q.den c']] w fun e w' => e = .returned (.bool false) ∧ Below w.heap.size w w' := by
 refine V.nt Tryz.func93 rfl rfl fun f0 hf => ?_
 have s0 : f0 0 = .agg #[.bool (Q.neg q), Vs A (Q.m q) c, .bool false, Vs A' q.den c'] := hf 0 (by simp)
 clear hf
 have hb := Below.refl w.heap.size w
 refine V.seq ?_
 refine V.reg 2 [V.Nb w 39 #[.bool (Q.neg q), Vs A (Q.m q) c, .bool false, Vs A' q.den c'], V.E (.bool false)] [0] (V.i h1 (V.i h2 hb)) ?_ ?_
 ·refine V.a2 ?_ ?_
  ·exact V.sn rfl fun f W h => V.x_box (V.eo h 0 s0)
  ·exact V.z1 rfl fun h => V.xs rfl
 have o_bel := hb.size
 intro f45 W46 e47
 clear h1 h2 hb
 obtain ⟨⟨h1, h2, hb⟩, z_⟩ := e47.g
 replace s0 := V.e1 e47 s0
 obtain ⟨g44, s1, bg44, lg44⟩ := V.eq e47 0 1 rfl
 have s2 := V.es e47 1 2 rfl
 clear e47 z_
 clear o_bel
 refine V.t_done rfl (V.nx (V.seq ?_))
 refine V.reg 4 [V.E (.agg #[.bool (Q.neg q), Vs A (Q.m q) c, .bool false, Vs A' q.den c']), V.E (.bool true), V.E (.bool false), V.E (.bool false)] [] (V.i h1 (V.i h2 (V.i hb bg44))) ?_ ?_
 ·refine V.a4 ?_ ?_ ?_ ?_
  ·exact V.z1 rfl fun h => V.xl (V.eo h 1 s1) (V.lr h.g.1.2.2.2 Tryz.underlying39)
  ·refine V.s2 rfl fun f W h => ?_
   refine V.call en25 (V.args1 (V.ed h 0 3 rfl)) (Calls.mono (Valid_q h.g.1.1 h.g.1.2.1 hq) ?_)
   rintro e W' ⟨rfl, hb⟩
   exact ⟨_, rfl, rfl, hb⟩
  ·exact V.z1 rfl fun h => V.x_un (V.ed h 1 4 rfl)
  ·exact V.se rfl 2 5 rfl
 intro f48 W49 e50
 clear h1 h2 hb bg44
 obtain ⟨⟨h1, h2, hb, bg44⟩, z_⟩ := e50.g
 replace s0 := V.e1 e50 s0
 have s2 := V.es e50 3 2 rfl
 clear e50 z_
 refine V.t_done rfl (V.nx (V.ret ?_))
 refine V.leave_any (.inl rfl) (V.res_tmp rfl rfl s2) ?_
 exact ⟨rfl, hb⟩
theorem index2_q {A A' B B' : Option Addr} {c c' e e' d g : Nat} {q r : Rat} {w : World} (h1 : R16 w A (Lb.limbs (Q.m q)).length c (Lb.limbs (Q.m q))) (h2 : R16 w A' (Lb.limbs q.den).length c' (Lb.limbs q.den)) (h3 : R16 w B (Lb.limbs (Q.m r)).length e (Lb.limbs (Q.m r))) (h4 : R16 w B' (Lb.limbs r.den).length e' (Lb.limbs r.den)) (hg : Blk w g 39 #[.bool (Q.neg q), Vs A (Q.m q) c, .bool false, Vs A' q.den c', .bool (Q.neg r), Vs B (Q.m r) e, .bool false, Vs B' r.den e']) (hq : Q.Sz 256 q) (hr : Q.Sz 256 r) :
    Calls Tryz.prog 127 #[.slice (some ⟨g, 0, none⟩) 2 d, .func (.func 93) #[] #[]] w fun e w' => e = .returned (.int .i64 (-1)) ∧ Below w.heap.size w w' := by
 refine V.nt Tryz.func127 rfl rfl fun f0 hf => ?_
 have s0 : f0 0 = .slice (some ⟨g, 0, none⟩) 2 d := hf 0 (by simp)
 have s1 : f0 1 = .func (.func 93) #[] #[] := hf 1 (by simp)
 clear hf
 have hb := Below.refl w.heap.size w
 refine V.seq ?_
 refine V.reg 1 [V.E (.int .i64 0)] [] (V.i h1 (V.i h2 (V.i h3 (V.i h4 (V.i hg hb))))) ?_ ?_
 ·refine V.ac ?_ V.an
  ·exact V.z1 rfl fun h => V.xs rfl
 intro f51 W52 e53
 clear h1 h2 h3 h4 hg hb
 obtain ⟨⟨h1, h2, h3, h4, hg, hb⟩, z_⟩ := e53.g
 obtain ⟨s0, s1⟩ := V.e2 e53 s0 s1
 have s4 := V.es e53 0 4 rfl
 clear e53 z_
 refine V.t_done rfl (V.nx (V.seq (V.seq ?_)))
 refine V.reg 3 [V.E (.slice (some ⟨g, 0, none⟩) 2 d), V.E (.int .i64 2), V.E (.int .i64 0)] [] (V.i h1 (V.i h2 (V.i h3 (V.i h4 (V.i hg hb))))) ?_ ?_
 ·refine V.a3 ?_ ?_ ?_
  ·exact V.mo rfl 0 s0
  ·exact V.z1 rfl fun h => V.x_len (V.ed h 0 6 rfl)
  ·exact V.z1 rfl fun h => V.xm rfl
 intro f54 W55 e56
 clear h1 h2 h3 h4 hg hb
 obtain ⟨⟨h1, h2, h3, h4, hg, hb⟩, z_⟩ := e56.g
 obtain ⟨s0, s1, s4⟩ := V.e3 e56 s0 s1 s4
 have s7 := V.es e56 1 7 rfl
 have s8 := V.es e56 2 8 rfl
 clear e56 z_
 refine V.t_done rfl (V.nx (V.block ?_))
 refine V.loop (fun k f W => ∃ j : Nat, (k = 2 - j ∧ (j ≤ 2)) ∧ (f 0 = .slice (some ⟨g, 0, none⟩) 2 d ∧ f 1 = .func (.func 93) #[] #[] ∧ f 7 = .int .i64 2 ∧ f 8 = .int .i64 (j : Int)) ∧ (R16 W A ((Lb.limbs (Q.m q)).length) c (Lb.limbs (Q.m q)) ∧ R16 W A' ((Lb.limbs q.den).length) c' (Lb.limbs q.den) ∧ R16 W B ((Lb.limbs (Q.m r)).length) e (Lb.limbs (Q.m r)) ∧ R16 W B' ((Lb.limbs r.den).length) e' (Lb.limbs r.den) ∧ Blk W g 39 #[.bool (Q.neg q), Vs A (Q.m q) c, .bool false, Vs A' q.den c', .bool (Q.neg r), Vs B (Q.m r) e, .bool false, Vs B' r.den e'] ∧ Below w.heap.size w W)) (2 - 0) ⟨0, ⟨rfl, by omega⟩, ⟨s0, s1, s7, (s8.trans (by simp))⟩, ⟨h1, h2, h3, h4, hg, hb⟩⟩ ?_
 clear h1 h2 h3 h4 hg hb s0 s1 s4 s7 s8
 rintro k59 f57 W58 ⟨j, ⟨hk60, hj⟩, ⟨s0, s1, s7, s8⟩, ⟨h1, h2, h3, h4, hg, hb⟩⟩
 rcases (by omega : j = 0 ∨ j = 1 ∨ j = 2) with rfl | rfl | rfl
 ·skip
  replace s8 : f57 8 = .int .i64 0 := s8
  refine V.seq ?_
  refine V.reg 1 [V.E (.bool (decide (0 < 2)))] [] (V.i h1 (V.i h2 (V.i h3 (V.i h4 (V.i hg hb))))) ?_ ?_
  ·refine V.ac ?_ V.an
   ·exact V.z1 rfl fun h => V.xb (V.eo h 8 s8) (V.eo h 7 s7)
  intro f61 W62 e63
  clear h1 h2 h3 h4 hg hb
  obtain ⟨⟨h1, h2, h3, h4, hg, hb⟩, z_⟩ := e63.g
  obtain ⟨s0, s1, s7, s8⟩ := V.e4 e63 s0 s1 s7 s8
  have s9 := V.es e63 0 9 rfl
  clear e63 z_
  refine V.t_done rfl (V.nx (V.seq ?_))
  have s9_ : f61 9 = .bool true := s9.trans (congrArg Value.bool (by simp))
  refine V.cond_t (V.ev_tmp rfl s9_) ?_
  refine V.skip ?_
  refine V.nx (V.seq (V.block (V.seq ?_)))
  refine V.reg 2 [V.E (.int .i64 0), V.E (.int .i64 0)] [] (V.i h1 (V.i h2 (V.i h3 (V.i h4 (V.i hg hb))))) ?_ ?_
  ·refine V.a2 ?_ ?_
   ·exact V.mo rfl 8 s8
   ·exact V.se rfl 0 10 rfl
  intro f64 W65 e66
  clear h1 h2 h3 h4 hg hb
  obtain ⟨⟨h1, h2, h3, h4, hg, hb⟩, z_⟩ := e66.g
  obtain ⟨s0, s1, s7, s8⟩ := V.e4 e66 s0 s1 s7 s8
  have s5 := V.es e66 1 5 rfl
  clear e66 z_
  refine V.t_done rfl (V.nx (V.seq ?_))
  refine V.reg 6 [V.E (.func (.func 93) #[] #[]), V.E (.slice (some ⟨g, 0, none⟩) 2 d), V.E (.int .i64 0), V.E (Vp g 0), V.E (.agg #[.bool (Q.neg q), Vs A (Q.m q) c, .bool false, Vs A' q.den c']), V.E (.bool false)] [] (V.i h1 (V.i h2 (V.i h3 (V.i h4 (V.i hg hb))))) ?_ ?_
  ·refine V.a6 ?_ ?_ ?_ ?_ ?_ ?_
   ·exact V.mo rfl 1 s1
   ·exact V.mo rfl 0 s0
   ·exact V.mo rfl 5 s5
   ·exact V.z1 rfl fun h => V.x_indexAddr (V.ed h 1 12 rfl) (V.ed h 2 13 rfl) (by kernel_rfl)
   ·exact V.z1 rfl fun h => V.xl (V.ed h 3 14 rfl) (V.ld_mid (xs := [.bool (Q.neg q), Vs A (Q.m q) c, .bool false, Vs A' q.den c']) h.g.1.2.2.2.2.1 (by intro j hj; match j, hj with | 0, _ => rfl | 1, _ => rfl | 2, _ => rfl | 3, _ => rfl) Tryz.underlying39)
   ·refine V.s2 rfl fun f W h => ?_
    refine V.callv (V.ed h 0 11 rfl) en93 (V.args1 (V.ed h 4 15 rfl)) (Calls.mono (valid1_q h.g.1.1 h.g.1.2.1 hq) ?_)
    rintro e W' ⟨rfl, hb⟩
    exact ⟨_, rfl, rfl, hb⟩
  intro f67 W68 e69
  clear h1 h2 h3 h4 hg hb
  obtain ⟨⟨h1, h2, h3, h4, hg, hb⟩, z_⟩ := e69.g
  obtain ⟨s0, s1, s7, s8, s5⟩ := V.e5 e69 s0 s1 s7 s8 s5
  have s16 := V.es e69 5 16 rfl
  clear e69 z_
  refine V.t_done rfl (V.nx ?_)
  refine V.cond_f (V.ev_tmp rfl s16) ?_
  refine V.skip ?_
  refine V.bn (V.nx ?_)
  refine V.reg 2 [V.E (.int .i64 (0 + 1)), V.E (.int .i64 (0 + 1))] [] (V.i h1 (V.i h2 (V.i h3 (V.i h4 (V.i hg hb))))) ?_ ?_
  ·refine V.a2 ?_ ?_
   ·refine V.s1 rfl fun f W h => ?_
    have hw70 : IntKind.i64.wrap (0 + 1) = 0 + 1 := by exact IntWalk.i64_in _ (by omega)
    exact V.xb (V.eo h 8 s8) rfl ((by kernel_rfl : _ = Result.ok (.int .i64 (IntKind.i64.wrap (0 + 1))) _).trans (by rw [hw70]))
   ·exact V.me rfl 0 18 rfl
  intro f71 W72 e73
  clear h1 h2 h3 h4 hg hb
  obtain ⟨⟨h1, h2, h3, h4, hg, hb⟩, z_⟩ := e73.g
  obtain ⟨s0, s1, s7⟩ := V.e3 e73 s0 s1 s7
  have s8 := V.es e73 1 8 rfl
  clear e73 z_
  refine V.t_done rfl ?_
  refine V.handed (2 - 1) (by have := hk60; omega) ⟨1, ⟨rfl, by omega⟩, ⟨s0, s1, s7, (s8.trans (by simp))⟩, ⟨h1, h2, h3, h4, hg, hb⟩⟩
 ·skip
  replace s8 : f57 8 = .int .i64 1 := s8
  refine V.seq ?_
  refine V.reg 1 [V.E (.bool (decide (1 < 2)))] [] (V.i h1 (V.i h2 (V.i h3 (V.i h4 (V.i hg hb))))) ?_ ?_
  ·refine V.ac ?_ V.an
   ·exact V.z1 rfl fun h => V.xb (V.eo h 8 s8) (V.eo h 7 s7)
  intro f74 W75 e76
  clear h1 h2 h3 h4 hg hb
  obtain ⟨⟨h1, h2, h3, h4, hg, hb⟩, z_⟩ := e76.g
  obtain ⟨s0, s1, s7, s8⟩ := V.e4 e76 s0 s1 s7 s8
  have s9 := V.es e76 0 9 rfl
  clear e76 z_
  refine V.t_done rfl (V.nx (V.seq ?_))
  have s9_ : f74 9 = .bool true := s9.trans (congrArg Value.bool (by simp))
  refine V.cond_t (V.ev_tmp rfl s9_) ?_
  refine V.skip ?_
  refine V.nx (V.seq (V.block (V.seq ?_)))
  refine V.reg 2 [V.E (.int .i64 1), V.E (.int .i64 1)] [] (V.i h1 (V.i h2 (V.i h3 (V.i h4 (V.i hg hb))))) ?_ ?_
  ·refine V.a2 ?_ ?_
   ·exact V.mo rfl 8 s8
   ·exact V.se rfl 0 10 rfl
  intro f77 W78 e79
  clear h1 h2 h3 h4 hg hb
  obtain ⟨⟨h1, h2, h3, h4, hg, hb⟩, z_⟩ := e79.g
  obtain ⟨s0, s1, s7, s8⟩ := V.e4 e79 s0 s1 s7 s8
  have s5 := V.es e79 1 5 rfl
  clear e79 z_
  refine V.t_done rfl (V.nx (V.seq ?_))
  refine V.reg 6 [V.E (.func (.func 93) #[] #[]), V.E (.slice (some ⟨g, 0, none⟩) 2 d), V.E (.int .i64 1), V.E (Vp g 4), V.E (.agg #[.bool (Q.neg r), Vs B (Q.m r) e, .bool false, Vs B' r.den e']), V.E (.bool false)] [] (V.i h1 (V.i h2 (V.i h3 (V.i h4 (V.i hg hb))))) ?_ ?_
  ·refine V.a6 ?_ ?_ ?_ ?_ ?_ ?_
   ·exact V.mo rfl 1 s1
   ·exact V.mo rfl 0 s0
   ·exact V.mo rfl 5 s5
   ·exact V.z1 rfl fun h => V.x_indexAddr (V.ed h 1 12 rfl) (V.ed h 2 13 rfl) (by kernel_rfl)
   ·exact V.z1 rfl fun h => V.xl (V.ed h 3 14 rfl) (V.ld_mid (xs := [.bool (Q.neg r), Vs B (Q.m r) e, .bool false, Vs B' r.den e']) h.g.1.2.2.2.2.1 (by intro j hj; match j, hj with | 0, _ => rfl | 1, _ => rfl | 2, _ => rfl | 3, _ => rfl) Tryz.underlying39)
   ·refine V.s2 rfl fun f W h => ?_
    refine V.callv (V.ed h 0 11 rfl) en93 (V.args1 (V.ed h 4 15 rfl)) (Calls.mono (valid1_q h.g.1.2.2.1 h.g.1.2.2.2.1 hr) ?_)
    rintro e W' ⟨rfl, hb⟩
    exact ⟨_, rfl, rfl, hb⟩
  intro f80 W81 e82
  clear h1 h2 h3 h4 hg hb
  obtain ⟨⟨h1, h2, h3, h4, hg, hb⟩, z_⟩ := e82.g
  obtain ⟨s0, s1, s7, s8, s5⟩ := V.e5 e82 s0 s1 s7 s8 s5
  have s16 := V.es e82 5 16 rfl
  clear e82 z_
  refine V.t_done rfl (V.nx ?_)
  refine V.cond_f (V.ev_tmp rfl s16) ?_
  refine V.skip ?_
  refine V.bn (V.nx ?_)
  refine V.reg 2 [V.E (.int .i64 (1 + 1)), V.E (.int .i64 (1 + 1))] [] (V.i h1 (V.i h2 (V.i h3 (V.i h4 (V.i hg hb))))) ?_ ?_
  ·refine V.a2 ?_ ?_
   ·refine V.s1 rfl fun f W h => ?_
    have hw83 : IntKind.i64.wrap (1 + 1) = 1 + 1 := by exact IntWalk.i64_in _ (by omega)
    exact V.xb (V.eo h 8 s8) rfl ((by kernel_rfl : _ = Result.ok (.int .i64 (IntKind.i64.wrap (1 + 1))) _).trans (by rw [hw83]))
   ·exact V.me rfl 0 18 rfl
  intro f84 W85 e86
  clear h1 h2 h3 h4 hg hb
  obtain ⟨⟨h1, h2, h3, h4, hg, hb⟩, z_⟩ := e86.g
  obtain ⟨s0, s1, s7⟩ := V.e3 e86 s0 s1 s7
  have s8 := V.es e86 1 8 rfl
  clear e86 z_
  refine V.t_done rfl ?_
  refine V.handed (2 - 2) (by have := hk60; omega) ⟨2, ⟨rfl, by omega⟩, ⟨s0, s1, s7, (s8.trans (by simp))⟩, ⟨h1, h2, h3, h4, hg, hb⟩⟩
 ·skip
  replace s8 : f57 8 = .int .i64 2 := s8
  refine V.seq ?_
  refine V.reg 1 [V.E (.bool (decide (2 < 2)))] [] (V.i h1 (V.i h2 (V.i h3 (V.i h4 (V.i hg hb))))) ?_ ?_
  ·refine V.ac ?_ V.an
   ·exact V.z1 rfl fun h => V.xb (V.eo h 8 s8) (V.eo h 7 s7)
  intro f87 W88 e89
  clear h1 h2 h3 h4 hg hb
  obtain ⟨⟨h1, h2, h3, h4, hg, hb⟩, z_⟩ := e89.g
  obtain ⟨s0, s1, s7, s8⟩ := V.e4 e89 s0 s1 s7 s8
  have s9 := V.es e89 0 9 rfl
  clear e89 z_
  refine V.t_done rfl (V.nx (V.seq ?_))
  have s9_ : f87 9 = .bool false := s9.trans (congrArg Value.bool (by simp))
  refine V.cond_f (V.ev_tmp rfl s9_) ?_
  refine V.exit (V.tx (V.tx (V.bx (V.nx (V.seq ?_)))))
  refine V.reg 1 [V.E (.int .i64 (-1))] [] (V.i h1 (V.i h2 (V.i h3 (V.i h4 (V.i hg hb))))) ?_ ?_
  ·refine V.ac ?_ V.an
   ·exact V.z1 rfl fun h => V.xs rfl
  intro f90 W91 e92
  clear h1 h2 h3 h4 hg hb
  obtain ⟨⟨h1, h2, h3, h4, hg, hb⟩, z_⟩ := e92.g
  obtain ⟨s0, s1⟩ := V.e2 e92 s0 s1
  have s4 := V.es e92 0 4 rfl
  clear e92 z_
  refine V.t_done rfl (V.nx (V.ret ?_))
  refine V.leave_any (.inl rfl) (V.res_tmp rfl rfl s4) ?_
  exact ⟨rfl, hb⟩
theorem contains2_q {A A' B B' : Option Addr} {c c' e e' d g : Nat} {q r : Rat} {w : World} (h1 : R16 w A (Lb.limbs (Q.m q)).length c (Lb.limbs (Q.m q))) (h2 : R16 w A' (Lb.limbs q.den).length c' (Lb.limbs q.den)) (h3 : R16 w B (Lb.limbs (Q.m r)).length e (Lb.limbs (Q.m r))) (h4 : R16 w B' (Lb.limbs r.den).length e' (Lb.limbs r.den)) (hg : Blk w g 39 #[.bool (Q.neg q), Vs A (Q.m q) c, .bool false, Vs A' q.den c', .bool (Q.neg r), Vs B (Q.m r) e, .bool false, Vs B' r.den e']) (hq : Q.Sz 256 q) (hr : Q.Sz 256 r) :
    Calls Tryz.prog 92 #[.slice (some ⟨g, 0, none⟩) 2 d, .func (.func 93) #[] #[]] w fun e w' => e = .returned (.bool false) ∧ Below w.heap.size w w' := by
 refine V.nt Tryz.func92 rfl rfl fun f0 hf => ?_
 have s0 : f0 0 = .slice (some ⟨g, 0, none⟩) 2 d := hf 0 (by simp)
 have s1 : f0 1 = .func (.func 93) #[] #[] := hf 1 (by simp)
 clear hf
 have hb := Below.refl w.heap.size w
 refine V.seq ?_
 refine V.reg 1 [V.E (.bool false)] [] (V.i h1 (V.i h2 (V.i h3 (V.i h4 (V.i hg hb))))) ?_ ?_
 ·refine V.ac ?_ V.an
  ·exact V.z1 rfl fun h => V.xs rfl
 intro f93 W94 e95
 clear h1 h2 h3 h4 hg hb
 obtain ⟨⟨h1, h2, h3, h4, hg, hb⟩, z_⟩ := e95.g
 obtain ⟨s0, s1⟩ := V.e2 e95 s0 s1
 have s4 := V.es e95 0 4 rfl
 clear e95 z_
 refine V.t_done rfl (V.nx (V.seq ?_))
 refine V.reg 5 [V.E (.slice (some ⟨g, 0, none⟩) 2 d), V.E (.func (.func 93) #[] #[]), V.E (.int .i64 (-1)), V.E (.bool (decide (0 ≤ (-1)))), V.E (.bool (decide (0 ≤ (-1))))] [] (V.i h1 (V.i h2 (V.i h3 (V.i h4 (V.i hg hb))))) ?_ ?_
 ·refine V.a5 ?_ ?_ ?_ ?_ ?_
  ·exact V.mo rfl 0 s0
  ·exact V.mo rfl 1 s1
  ·refine V.s2 rfl fun f W h => ?_
   refine V.call en127 (V.args2 (V.ed h 0 5 rfl) (V.ed h 1 6 rfl)) (Calls.mono (index2_q h.g.1.1 h.g.1.2.1 h.g.1.2.2.1 h.g.1.2.2.2.1 h.g.1.2.2.2.2.1 hq hr) ?_)
   rintro e W' ⟨rfl, hb⟩
   exact ⟨_, rfl, rfl, hb⟩
  ·exact V.z1 rfl fun h => V.xb (V.ed h 2 7 rfl) rfl
  ·exact V.se rfl 3 8 rfl
 intro f96 W97 e98
 clear h1 h2 h3 h4 hg hb
 obtain ⟨⟨h1, h2, h3, h4, hg, hb⟩, z_⟩ := e98.g
 obtain ⟨s0, s1⟩ := V.e2 e98 s0 s1
 have s4 := V.es e98 4 4 rfl
 clear e98 z_
 refine V.t_done rfl (V.nx (V.ret ?_))
 refine V.leave_any (.inl rfl) (V.res_tmp rfl rfl s4) ?_
 exact ⟨rfl, hb⟩
theorem valid2_q {A A' B B' : Option Addr} {c c' e e' d g : Nat} {q r : Rat} {w : World} (h1 : R16 w A (Lb.limbs (Q.m q)).length c (Lb.limbs (Q.m q))) (h2 : R16 w A' (Lb.limbs q.den).length c' (Lb.limbs q.den)) (h3 : R16 w B (Lb.limbs (Q.m r)).length e (Lb.limbs (Q.m r))) (h4 : R16 w B' (Lb.limbs r.den).length e' (Lb.limbs r.den)) (hg : Blk w g 39 #[.bool (Q.neg q), Vs A (Q.m q) c, .bool false, Vs A' q.den c', .bool (Q.neg r), Vs B (Q.m r) e, .bool false, Vs B' r.den e']) (hq : Q.Sz 256 q) (hr : Q.Sz 256 r) :
    Calls Tryz.prog 53 #[.slice (some ⟨g, 0, none⟩) 2 d] w fun e w' => e = .returned (.bool true) ∧ Below w.heap.size w w' := by
 refine V.nt Tryz.func53 rfl rfl fun f0 hf => ?_
 have s0 : f0 0 = .slice (some ⟨g, 0, none⟩) 2 d := hf 0 (by simp)
 clear hf
 have hb := Below.refl w.heap.size w
 refine V.seq ?_
 refine V.reg 1 [V.E (.bool false)] [] (V.i h1 (V.i h2 (V.i h3 (V.i h4 (V.i hg hb))))) ?_ ?_
 ·refine V.ac ?_ V.an
  ·exact V.z1 rfl fun h => V.xs rfl
 intro f99 W100 e101
 clear h1 h2 h3 h4 hg hb
 obtain ⟨⟨h1, h2, h3, h4, hg, hb⟩, z_⟩ := e101.g
 replace s0 := V.e1 e101 s0
 have s2 := V.es e101 0 2 rfl
 clear e101 z_
 refine V.t_done rfl (V.nx (V.seq ?_))
 refine V.reg 4 [V.E (.slice (some ⟨g, 0, none⟩) 2 d), V.E (.bool false), V.E (.bool true), V.E (.bool true)] [] (V.i h1 (V.i h2 (V.i h3 (V.i h4 (V.i hg hb))))) ?_ ?_
 ·refine V.a4 ?_ ?_ ?_ ?_
  ·exact V.mo rfl 0 s0
  ·refine V.s2 rfl fun f W h => ?_
   refine V.call en92 (V.args2 (V.ed h 0 3 rfl) rfl) (Calls.mono (contains2_q h.g.1.1 h.g.1.2.1 h.g.1.2.2.1 h.g.1.2.2.2.1 h.g.1.2.2.2.2.1 hq hr) ?_)
   rintro e W' ⟨rfl, hb⟩
   exact ⟨_, rfl, rfl, hb⟩
  ·exact V.z1 rfl fun h => V.x_un (V.ed h 1 4 rfl)
  ·exact V.se rfl 2 5 rfl
 intro f102 W103 e104
 clear h1 h2 h3 h4 hg hb
 obtain ⟨⟨h1, h2, h3, h4, hg, hb⟩, z_⟩ := e104.g
 replace s0 := V.e1 e104 s0
 have s2 := V.es e104 3 2 rfl
 clear e104 z_
 refine V.t_done rfl (V.nx (V.ret ?_))
 refine V.leave_any (.inl rfl) (V.res_tmp rfl rfl s2) ?_
 exact ⟨rfl, hb⟩
end Go.Proofs.YtjbcalbbhomkjaaGreat
