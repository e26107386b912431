import Derived.Test.YtjbcalbbhomkjaaGreatEIsOne
import Derived.Test.YtjbcalbbhomkjaaGreatEQ
import Derived.Test.YtjbcalbbhomkjaaGreatEVc
set_option maxRecDepth 20000
set_option maxHeartbeats 2000000
namespace Go.Proofs.YtjbcalbbhomkjaaGreat
open Go.RowKit
attribute [local irreducible] RI.frame RI.act RI.Ob RI.Tail RI.out V.Wp V.Fn Oper.wp
theorem en89 : En 89 := en_ Tryz.func89
theorem en90 : En 90 := en_ Tryz.func90
theorem en98 : En 98 := en_ Tryz.func98
theorem en128 : En 128 := en_ Tryz.func128
theorem product_nn {A A' : Option Addr} {c c' : Nat} {n0 n1 : Bool} {m0 m1 : Nat} {w : World} (nr : Bool) (mr : Nat) (h : R16 w A (Lb.limbs m0).length c (Lb.limbs m0)) (h' : R16 w A' (Lb.limbs m1).length c' (Lb.limbs m1)) (h0 : Nv n0 m0) (h1 : Nv n1 m1) (hr : Nv nr mr) (hz : sgn nr mr = sgn n0 m0 * sgn n1 m1) :
    Calls Tryz.prog 56 #[.agg #[.bool n0, Vs A m0 c], .agg #[.bool n1, Vs A' m1 c']] w (RetN w nr mr) := by
 refine V.nt Tryz.func56 rfl rfl fun f0 hf => ?_
 have s0 : f0 0 = .agg #[.bool n0, Vs A m0 c] := hf 0 (by simp)
 have s1 : f0 1 = .agg #[.bool n1, Vs A' m1 c'] := hf 1 (by simp)
 clear hf
 have hb := Below.refl w.heap.size w
 refine V.seq ?_
 refine V.reg 3 [V.Nb w 35 #[.bool n0, Vs A m0 c], V.Nb w 35 #[.bool n1, Vs A' m1 c'], V.Nb w 35 #[.bool false, .slice none 0 0]] [0, 1, 2] (V.i h (V.i h' hb)) ?_ ?_
 ·refine V.a3 ?_ ?_ ?_
  ·exact V.sn rfl fun f W h => V.x_box (V.eo h 0 s0)
  ·exact V.sn rfl fun f W h => V.x_box (V.eo h 1 s1)
  ·exact V.sn rfl fun f W h => V.x_alloc
 have o_bel := hb.size
 intro f4 W5 e6
 clear h h' hb
 obtain ⟨⟨h, h', hb⟩, z_⟩ := e6.g
 obtain ⟨s0, s1⟩ := V.e2 e6 s0 s1
 obtain ⟨g1, s2, bg1, lg1⟩ := V.eq e6 0 2 rfl
 obtain ⟨g2, s3, bg2, lg2⟩ := V.eq e6 1 3 rfl
 obtain ⟨g3, s4, bg3, lg3⟩ := V.eq e6 2 4 rfl
 have mg3 := Nat.le_trans o_bel lg3
 clear e6 z_
 clear o_bel
 refine V.t_done rfl (V.nx (V.seq ?_))
 refine V.reg 7 [V.E (.agg #[.bool n0, Vs A m0 c]), V.E (.agg #[.bool n1, Vs A' m1 c']), (fun v W => ∃ A7 : Option Addr, ∃ c8 : Nat, v = .tuple #[.agg #[.bool nr, Vs A7 mr c8], .int .i64 0] ∧ R16 W A7 ((Lb.limbs mr).length) c8 (Lb.limbs mr) ∧ (∀ ad, A7 = some ad → w.heap.size ≤ ad.block)), (fun v W => ∃ A11 : Option Addr, ∃ c12 : Nat, v = .tuple #[.agg #[.bool nr, Vs A11 mr c12], .int .i64 0] ∧ R16 W A11 ((Lb.limbs mr).length) c12 (Lb.limbs mr) ∧ (∀ ad, A11 = some ad → w.heap.size ≤ ad.block)), (fun v W => ∃ A13 : Option Addr, ∃ c14 : Nat, v = .agg #[.bool nr, Vs A13 mr c14] ∧ R16 W A13 ((Lb.limbs mr).length) c14 (Lb.limbs mr) ∧ (∀ ad, A13 = some ad → w.heap.size ≤ ad.block)), V.E (.int .i64 0), V.Nb W5 35 #[.bool false, .slice none 0 0]] [6] (V.i h (V.i h' (V.i hb (V.i bg1 (V.i bg2 bg3))))) ?_ ?_
 ·refine V.a7 ?_ ?_ ?_ ?_ ?_ ?_ ?_
  ·exact V.z1 rfl fun h => V.xl (V.eo h 2 s2) (V.lr h.g.1.2.2.2.1 Tryz.underlying35)
  ·exact V.z1 rfl fun h => V.xl (V.eo h 3 s3) (V.lr h.g.1.2.2.2.2.1 Tryz.underlying35)
  ·refine V.s2 rfl fun f W h => ?_
   refine V.call en98 (V.args2 (V.ed h 0 8 rfl) (V.ed h 1 9 rfl)) (Calls.mono (Mul_nn nr mr h.g.1.1 h.g.1.2.1 h0 h1 hr hz) ?_)
   rintro e W' ⟨A7, c8, rfl, k9, p10, hb⟩
   exact ⟨_, rfl, ⟨A7, c8, rfl, k9, (fun ad e => Nat.le_trans h.g.1.2.2.1.size (p10 ad e))⟩, hb⟩
  ·refine V.s2 rfl fun f W h => ?_
   obtain ⟨A7, c8, a10, k2_0, p2_0⟩ := V.dp h 2 10 (by kernel_rfl) rfl
   exact V.v2 (.tuple #[.agg #[.bool nr, Vs A7 mr c8], .int .i64 0]) (V.xm (V.ev_tmp rfl a10)) ⟨A7, c8, rfl, k2_0, p2_0⟩
  ·refine V.s2 rfl fun f W h => ?_
   obtain ⟨A11, c12, a7, k3_0, p3_0⟩ := V.dp h 3 7 (by kernel_rfl) rfl
   exact V.v2 (.agg #[.bool nr, Vs A11 mr c12]) (V.xe (V.ev_tmp rfl a7)) ⟨A11, c12, rfl, k3_0, p3_0⟩
  ·refine V.s1 rfl fun f W h => ?_
   obtain ⟨A11, c12, a7, k3_0, p3_0⟩ := V.dp h 3 7 (by kernel_rfl) rfl
   exact V.xe (V.ev_tmp rfl a7)
  ·exact V.sn rfl fun f W h => V.x_alloc
 have o_g1 := bg1.lt
 have o_g2 := bg2.lt
 have o_g3 := bg3.lt
 have o_bel := hb.size
 intro f16 W17 e18
 clear h h' hb bg1 bg2 bg3
 obtain ⟨⟨h, h', hb, bg1, bg2, bg3⟩, z_⟩ := e18.g
 obtain ⟨s0, s1, s4⟩ := V.e3 e18 s0 s1 s4
 obtain ⟨A13, c14, s11, r19, n20⟩ := V.eq e18 4 11 rfl
 have s12 := V.es e18 5 12 rfl
 obtain ⟨g15, s5, bg15, lg15⟩ := V.eq e18 6 5 rfl
 have mg15 := Nat.le_trans o_bel lg15
 have q1_15 : g1 ≠ g15 := by omega
 have q2_15 : g2 ≠ g15 := by omega
 have q3_15 : g3 ≠ g15 := by omega
 clear e18 z_
 clear o_bel o_g1 o_g2 o_g3
 refine V.tsr (k := 7) rfl s5 s11 bg15 fun W21 hs b' => ?_
 replace h := hs.r16 h
 replace h' := hs.r16 h'
 replace hb := hs.bel hb mg15
 replace bg1 := hs.blk bg1 q1_15
 replace bg2 := hs.blk bg2 q2_15
 replace bg3 := hs.blk bg3 q3_15
 replace r19 := hs.r16 r19
 replace bg15 := b'
 clear hs b'
 refine V.t_val (k := 8) (v := .int .i64 0) (t := 6) rfl rfl rfl (by kernel_rfl) trivial (V.xs (V.ev_tmp rfl s12)) ?_
 intro f22 e23 u24
 replace s0 : f22 0 = .agg #[.bool n0, Vs A m0 c] := (u24 0 (by decide)).trans s0
 replace s1 : f22 1 = .agg #[.bool n1, Vs A' m1 c'] := (u24 1 (by decide)).trans s1
 replace s4 : f22 4 = Vp g3 0 := (u24 4 (by decide)).trans s4
 replace s11 : f22 11 = .agg #[.bool nr, Vs A13 mr c14] := (u24 11 (by decide)).trans s11
 replace s12 : f22 12 = .int .i64 0 := (u24 12 (by decide)).trans s12
 replace s5 : f22 5 = Vp g15 0 := (u24 5 (by decide)).trans s5
 have s6 := e23
 clear u24
 refine V.t_done rfl (V.nx (V.seq ?_))
 clear bg1 bg2
 refine V.reg 1 [V.E (.agg #[.bool nr, Vs A13 mr c14])] [] (V.i h (V.i h' (V.i hb (V.i bg3 (V.i r19 bg15))))) ?_ ?_
 ·refine V.ac ?_ V.an
  ·exact V.z1 rfl fun h => V.xl (V.eo h 5 s5) (V.lr h.g.1.2.2.2.2.2 Tryz.underlying35)
 intro f25 W26 e27
 clear h h' hb bg3 r19 bg15
 obtain ⟨⟨h, h', hb, bg3, r19, bg15⟩, z_⟩ := e27.g
 obtain ⟨s0, s1, s4⟩ := V.e3 e27 s0 s1 s4
 have s13 := V.es e27 0 13 rfl
 clear e27 z_
 refine V.tsr (k := 1) rfl s4 s13 bg3 fun W28 hs b' => ?_
 replace h := hs.r16 h
 replace h' := hs.r16 h'
 replace hb := hs.bel hb mg3
 replace r19 := hs.r16 r19
 replace bg15 := hs.blk bg15 (Ne.symm q3_15)
 replace bg3 := b'
 clear hs b'
 refine V.t_done rfl (V.nx (V.ret ?_))
 refine V.leave_any (.inl rfl) (V.res_cell rfl rfl s4 (V.lr bg3 Tryz.underlying35 rfl (by kernel_rfl))) ?_
 exact ⟨A13, c14, rfl, r19, n20, hb⟩
theorem sum_nn {A A' : Option Addr} {c c' : Nat} {n0 n1 : Bool} {m0 m1 : Nat} {w : World} (nr : Bool) (mr : Nat) (h : R16 w A (Lb.limbs m0).length c (Lb.limbs m0)) (h' : R16 w A' (Lb.limbs m1).length c' (Lb.limbs m1)) (h0 : Nv n0 m0) (h1 : Nv n1 m1) (hr : Nv nr mr) (hz : sgn nr mr = sgn n0 m0 + sgn n1 m1) :
    Calls Tryz.prog 94 #[.agg #[.bool n0, Vs A m0 c], .agg #[.bool n1, Vs A' m1 c']] w (RetN w nr mr) := by
 refine V.nt Tryz.func94 rfl rfl fun f0 hf => ?_
 have s0 : f0 0 = .agg #[.bool n0, Vs A m0 c] := hf 0 (by simp)
 have s1 : f0 1 = .agg #[.bool n1, Vs A' m1 c'] := hf 1 (by simp)
 clear hf
 have hb := Below.refl w.heap.size w
 refine V.seq ?_
 refine V.reg 3 [V.Nb w 35 #[.bool n0, Vs A m0 c], V.Nb w 35 #[.bool n1, Vs A' m1 c'], V.Nb w 35 #[.bool false, .slice none 0 0]] [0, 1, 2] (V.i h (V.i h' hb)) ?_ ?_
 ·refine V.a3 ?_ ?_ ?_
  ·exact V.sn rfl fun f W h => V.x_box (V.eo h 0 s0)
  ·exact V.sn rfl fun f W h => V.x_box (V.eo h 1 s1)
  ·exact V.sn rfl fun f W h => V.x_alloc
 have o_bel := hb.size
 intro f32 W33 e34
 clear h h' hb
 obtain ⟨⟨h, h', hb⟩, z_⟩ := e34.g
 obtain ⟨s0, s1⟩ := V.e2 e34 s0 s1
 obtain ⟨g29, s2, bg29, lg29⟩ := V.eq e34 0 2 rfl
 obtain ⟨g30, s3, bg30, lg30⟩ := V.eq e34 1 3 rfl
 obtain ⟨g31, s4, bg31, lg31⟩ := V.eq e34 2 4 rfl
 have mg31 := Nat.le_trans o_bel lg31
 clear e34 z_
 clear o_bel
 refine V.t_done rfl (V.nx (V.seq ?_))
 refine V.reg 7 [V.E (.agg #[.bool n0, Vs A m0 c]), V.E (.agg #[.bool n1, Vs A' m1 c']), (fun v W => ∃ A35 : Option Addr, ∃ c36 : Nat, v = .tuple #[.agg #[.bool nr, Vs A35 mr c36], .int .i64 0] ∧ R16 W A35 ((Lb.limbs mr).length) c36 (Lb.limbs mr) ∧ (∀ ad, A35 = some ad → w.heap.size ≤ ad.block)), (fun v W => ∃ A39 : Option Addr, ∃ c40 : Nat, v = .tuple #[.agg #[.bool nr, Vs A39 mr c40], .int .i64 0] ∧ R16 W A39 ((Lb.limbs mr).length) c40 (Lb.limbs mr) ∧ (∀ ad, A39 = some ad → w.heap.size ≤ ad.block)), (fun v W => ∃ A41 : Option Addr, ∃ c42 : Nat, v = .agg #[.bool nr, Vs A41 mr c42] ∧ R16 W A41 ((Lb.limbs mr).length) c42 (Lb.limbs mr) ∧ (∀ ad, A41 = some ad → w.heap.size ≤ ad.block)), V.E (.int .i64 0), V.Nb W33 35 #[.bool false, .slice none 0 0]] [6] (V.i h (V.i h' (V.i hb (V.i bg29 (V.i bg30 bg31))))) ?_ ?_
 ·refine V.a7 ?_ ?_ ?_ ?_ ?_ ?_ ?_
  ·exact V.z1 rfl fun h => V.xl (V.eo h 2 s2) (V.lr h.g.1.2.2.2.1 Tryz.underlying35)
  ·exact V.z1 rfl fun h => V.xl (V.eo h 3 s3) (V.lr h.g.1.2.2.2.2.1 Tryz.underlying35)
  ·refine V.s2 rfl fun f W h => ?_
   refine V.call en128 (V.args2 (V.ed h 0 8 rfl) (V.ed h 1 9 rfl)) (Calls.mono (Add_nn nr mr h.g.1.1 h.g.1.2.1 h0 h1 hr hz) ?_)
   rintro e W' ⟨A35, c36, rfl, k37, p38, hb⟩
   exact ⟨_, rfl, ⟨A35, c36, rfl, k37, (fun ad e => Nat.le_trans h.g.1.2.2.1.size (p38 ad e))⟩, hb⟩
  ·refine V.s2 rfl fun f W h => ?_
   obtain ⟨A35, c36, a10, k2_0, p2_0⟩ := V.dp h 2 10 (by kernel_rfl) rfl
   exact V.v2 (.tuple #[.agg #[.bool nr, Vs A35 mr c36], .int .i64 0]) (V.xm (V.ev_tmp rfl a10)) ⟨A35, c36, rfl, k2_0, p2_0⟩
  ·refine V.s2 rfl fun f W h => ?_
   obtain ⟨A39, c40, a7, k3_0, p3_0⟩ := V.dp h 3 7 (by kernel_rfl) rfl
   exact V.v2 (.agg #[.bool nr, Vs A39 mr c40]) (V.xe (V.ev_tmp rfl a7)) ⟨A39, c40, rfl, k3_0, p3_0⟩
  ·refine V.s1 rfl fun f W h => ?_
   obtain ⟨A39, c40, a7, k3_0, p3_0⟩ := V.dp h 3 7 (by kernel_rfl) rfl
   exact V.xe (V.ev_tmp rfl a7)
  ·exact V.sn rfl fun f W h => V.x_alloc
 have o_g29 := bg29.lt
 have o_g30 := bg30.lt
 have o_g31 := bg31.lt
 have o_bel := hb.size
 intro f44 W45 e46
 clear h h' hb bg29 bg30 bg31
 obtain ⟨⟨h, h', hb, bg29, bg30, bg31⟩, z_⟩ := e46.g
 obtain ⟨s0, s1, s4⟩ := V.e3 e46 s0 s1 s4
 obtain ⟨A41, c42, s11, r47, n48⟩ := V.eq e46 4 11 rfl
 have s12 := V.es e46 5 12 rfl
 obtain ⟨g43, s5, bg43, lg43⟩ := V.eq e46 6 5 rfl
 have mg43 := Nat.le_trans o_bel lg43
 have q29_43 : g29 ≠ g43 := by omega
 have q30_43 : g30 ≠ g43 := by omega
 have q31_43 : g31 ≠ g43 := by omega
 clear e46 z_
 clear o_bel o_g29 o_g30 o_g31
 refine V.tsr (k := 7) rfl s5 s11 bg43 fun W49 hs b' => ?_
 replace h := hs.r16 h
 replace h' := hs.r16 h'
 replace hb := hs.bel hb mg43
 replace bg29 := hs.blk bg29 q29_43
 replace bg30 := hs.blk bg30 q30_43
 replace bg31 := hs.blk bg31 q31_43
 replace r47 := hs.r16 r47
 replace bg43 := b'
 clear hs b'
 refine V.t_val (k := 8) (v := .int .i64 0) (t := 6) rfl rfl rfl (by kernel_rfl) trivial (V.xs (V.ev_tmp rfl s12)) ?_
 intro f50 e51 u52
 replace s0 : f50 0 = .agg #[.bool n0, Vs A m0 c] := (u52 0 (by decide)).trans s0
 replace s1 : f50 1 = .agg #[.bool n1, Vs A' m1 c'] := (u52 1 (by decide)).trans s1
 replace s4 : f50 4 = Vp g31 0 := (u52 4 (by decide)).trans s4
 replace s11 : f50 11 = .agg #[.bool nr, Vs A41 mr c42] := (u52 11 (by decide)).trans s11
 replace s12 : f50 12 = .int .i64 0 := (u52 12 (by decide)).trans s12
 replace s5 : f50 5 = Vp g43 0 := (u52 5 (by decide)).trans s5
 have s6 := e51
 clear u52
 refine V.t_done rfl (V.nx (V.seq ?_))
 clear bg29 bg30
 refine V.reg 1 [V.E (.agg #[.bool nr, Vs A41 mr c42])] [] (V.i h (V.i h' (V.i hb (V.i bg31 (V.i r47 bg43))))) ?_ ?_
 ·refine V.ac ?_ V.an
  ·exact V.z1 rfl fun h => V.xl (V.eo h 5 s5) (V.lr h.g.1.2.2.2.2.2 Tryz.underlying35)
 intro f53 W54 e55
 clear h h' hb bg31 r47 bg43
 obtain ⟨⟨h, h', hb, bg31, r47, bg43⟩, z_⟩ := e55.g
 obtain ⟨s0, s1, s4⟩ := V.e3 e55 s0 s1 s4
 have s13 := V.es e55 0 13 rfl
 clear e55 z_
 refine V.tsr (k := 1) rfl s4 s13 bg31 fun W56 hs b' => ?_
 replace h := hs.r16 h
 replace h' := hs.r16 h'
 replace hb := hs.bel hb mg31
 replace r47 := hs.r16 r47
 replace bg43 := hs.blk bg43 (Ne.symm q31_43)
 replace bg31 := b'
 clear hs b'
 refine V.t_done rfl (V.nx (V.ret ?_))
 refine V.leave_any (.inl rfl) (V.res_cell rfl rfl s4 (V.lr bg31 Tryz.underlying35 rfl (by kernel_rfl))) ?_
 exact ⟨A41, c42, rfl, r47, n48, hb⟩
theorem common_nn {A A' : Option Addr} {c c' : Nat} {n0 n1 : Bool} {m0 m1 : Nat} {w : World}  (h : R16 w A (Lb.limbs m0).length c (Lb.limbs m0)) (h' : R16 w A' (Lb.limbs m1).length c' (Lb.limbs m1)) (h0 : Nv n0 m0) (h1 : Nv n1 m1)  :
    Calls Tryz.prog 48 #[.agg #[.bool n0, Vs A m0 c], .agg #[.bool n1, Vs A' m1 c']] w (RetN w false (Nat.gcd m0 m1)) := by
 refine V.nt Tryz.func48 rfl rfl fun f0 hf => ?_
 have s0 : f0 0 = .agg #[.bool n0, Vs A m0 c] := hf 0 (by simp)
 have s1 : f0 1 = .agg #[.bool n1, Vs A' m1 c'] := hf 1 (by simp)
 clear hf
 have hb := Below.refl w.heap.size w
 refine V.seq ?_
 refine V.reg 3 [V.Nb w 35 #[.bool n0, Vs A m0 c], V.Nb w 35 #[.bool n1, Vs A' m1 c'], V.Nb w 35 #[.bool false, .slice none 0 0]] [0, 1, 2] (V.i h (V.i h' hb)) ?_ ?_
 ·refine V.a3 ?_ ?_ ?_
  ·exact V.sn rfl fun f W h => V.x_box (V.eo h 0 s0)
  ·exact V.sn rfl fun f W h => V.x_box (V.eo h 1 s1)
  ·exact V.sn rfl fun f W h => V.x_alloc
 have o_bel := hb.size
 intro f60 W61 e62
 clear h h' hb
 obtain ⟨⟨h, h', hb⟩, z_⟩ := e62.g
 obtain ⟨s0, s1⟩ := V.e2 e62 s0 s1
 obtain ⟨g57, s2, bg57, lg57⟩ := V.eq e62 0 2 rfl
 obtain ⟨g58, s3, bg58, lg58⟩ := V.eq e62 1 3 rfl
 obtain ⟨g59, s4, bg59, lg59⟩ := V.eq e62 2 4 rfl
 have mg59 := Nat.le_trans o_bel lg59
 clear e62 z_
 clear o_bel
 refine V.t_done rfl (V.nx (V.seq ?_))
 refine V.reg 7 [V.E (.agg #[.bool n0, Vs A m0 c]), V.E (.agg #[.bool n1, Vs A' m1 c']), (fun v W => ∃ A63 : Option Addr, ∃ c64 : Nat, v = .tuple #[.agg #[.bool false, Vs A63 (Nat.gcd m0 m1) c64], .int .i64 0] ∧ R16 W A63 ((Lb.limbs (Nat.gcd m0 m1)).length) c64 (Lb.limbs (Nat.gcd m0 m1)) ∧ (∀ ad, A63 = some ad → w.heap.size ≤ ad.block)), (fun v W => ∃ A67 : Option Addr, ∃ c68 : Nat, v = .tuple #[.agg #[.bool false, Vs A67 (Nat.gcd m0 m1) c68], .int .i64 0] ∧ R16 W A67 ((Lb.limbs (Nat.gcd m0 m1)).length) c68 (Lb.limbs (Nat.gcd m0 m1)) ∧ (∀ ad, A67 = some ad → w.heap.size ≤ ad.block)), (fun v W => ∃ A69 : Option Addr, ∃ c70 : Nat, v = .agg #[.bool false, Vs A69 (Nat.gcd m0 m1) c70] ∧ R16 W A69 ((Lb.limbs (Nat.gcd m0 m1)).length) c70 (Lb.limbs (Nat.gcd m0 m1)) ∧ (∀ ad, A69 = some ad → w.heap.size ≤ ad.block)), V.E (.int .i64 0), V.Nb W61 35 #[.bool false, .slice none 0 0]] [6] (V.i h (V.i h' (V.i hb (V.i bg57 (V.i bg58 bg59))))) ?_ ?_
 ·refine V.a7 ?_ ?_ ?_ ?_ ?_ ?_ ?_
  ·exact V.z1 rfl fun h => V.xl (V.eo h 2 s2) (V.lr h.g.1.2.2.2.1 Tryz.underlying35)
  ·exact V.z1 rfl fun h => V.xl (V.eo h 3 s3) (V.lr h.g.1.2.2.2.2.1 Tryz.underlying35)
  ·refine V.s2 rfl fun f W h => ?_
   refine V.call en90 (V.args2 (V.ed h 0 8 rfl) (V.ed h 1 9 rfl)) (Calls.mono (Gcd_nn h.g.1.1 h.g.1.2.1 h0 h1) ?_)
   rintro e W' ⟨A63, c64, rfl, k65, p66, hb⟩
   exact ⟨_, rfl, ⟨A63, c64, rfl, k65, (fun ad e => Nat.le_trans h.g.1.2.2.1.size (p66 ad e))⟩, hb⟩
  ·refine V.s2 rfl fun f W h => ?_
   obtain ⟨A63, c64, a10, k2_0, p2_0⟩ := V.dp h 2 10 (by kernel_rfl) rfl
   exact V.v2 (.tuple #[.agg #[.bool false, Vs A63 (Nat.gcd m0 m1) c64], .int .i64 0]) (V.xm (V.ev_tmp rfl a10)) ⟨A63, c64, rfl, k2_0, p2_0⟩
  ·refine V.s2 rfl fun f W h => ?_
   obtain ⟨A67, c68, a7, k3_0, p3_0⟩ := V.dp h 3 7 (by kernel_rfl) rfl
   exact V.v2 (.agg #[.bool false, Vs A67 (Nat.gcd m0 m1) c68]) (V.xe (V.ev_tmp rfl a7)) ⟨A67, c68, rfl, k3_0, p3_0⟩
  ·refine V.s1 rfl fun f W h => ?_
   obtain ⟨A67, c68, a7, k3_0, p3_0⟩ := V.dp h 3 7 (by kernel_rfl) rfl
   exact V.xe (V.ev_tmp rfl a7)
  ·exact V.sn rfl fun f W h => V.x_alloc
 have o_g57 := bg57.lt
 have o_g58 := bg58.lt
 have o_g59 := bg59.lt
 have o_bel := hb.size
 intro f72 W73 e74
 clear h h' hb bg57 bg58 bg59
 obtain ⟨⟨h, h', hb, bg57, bg58, bg59⟩, z_⟩ := e74.g
 obtain ⟨s0, s1, s4⟩ := V.e3 e74 s0 s1 s4
 obtain ⟨A69, c70, s11, r75, n76⟩ := V.eq e74 4 11 rfl
 have s12 := V.es e74 5 12 rfl
 obtain ⟨g71, s5, bg71, lg71⟩ := V.eq e74 6 5 rfl
 have mg71 := Nat.le_trans o_bel lg71
 have q57_71 : g57 ≠ g71 := by omega
 have q58_71 : g58 ≠ g71 := by omega
 have q59_71 : g59 ≠ g71 := by omega
 clear e74 z_
 clear o_bel o_g57 o_g58 o_g59
 refine V.tsr (k := 7) rfl s5 s11 bg71 fun W77 hs b' => ?_
 replace h := hs.r16 h
 replace h' := hs.r16 h'
 replace hb := hs.bel hb mg71
 replace bg57 := hs.blk bg57 q57_71
 replace bg58 := hs.blk bg58 q58_71
 replace bg59 := hs.blk bg59 q59_71
 replace r75 := hs.r16 r75
 replace bg71 := b'
 clear hs b'
 refine V.t_val (k := 8) (v := .int .i64 0) (t := 6) rfl rfl rfl (by kernel_rfl) trivial (V.xs (V.ev_tmp rfl s12)) ?_
 intro f78 e79 u80
 replace s0 : f78 0 = .agg #[.bool n0, Vs A m0 c] := (u80 0 (by decide)).trans s0
 replace s1 : f78 1 = .agg #[.bool n1, Vs A' m1 c'] := (u80 1 (by decide)).trans s1
 replace s4 : f78 4 = Vp g59 0 := (u80 4 (by decide)).trans s4
 replace s11 : f78 11 = .agg #[.bool false, Vs A69 (Nat.gcd m0 m1) c70] := (u80 11 (by decide)).trans s11
 replace s12 : f78 12 = .int .i64 0 := (u80 12 (by decide)).trans s12
 replace s5 : f78 5 = Vp g71 0 := (u80 5 (by decide)).trans s5
 have s6 := e79
 clear u80
 refine V.t_done rfl (V.nx (V.seq ?_))
 clear bg57 bg58
 refine V.reg 1 [V.E (.agg #[.bool false, Vs A69 (Nat.gcd m0 m1) c70])] [] (V.i h (V.i h' (V.i hb (V.i bg59 (V.i r75 bg71))))) ?_ ?_
 ·refine V.ac ?_ V.an
  ·exact V.z1 rfl fun h => V.xl (V.eo h 5 s5) (V.lr h.g.1.2.2.2.2.2 Tryz.underlying35)
 intro f81 W82 e83
 clear h h' hb bg59 r75 bg71
 obtain ⟨⟨h, h', hb, bg59, r75, bg71⟩, z_⟩ := e83.g
 obtain ⟨s0, s1, s4⟩ := V.e3 e83 s0 s1 s4
 have s13 := V.es e83 0 13 rfl
 clear e83 z_
 refine V.tsr (k := 1) rfl s4 s13 bg59 fun W84 hs b' => ?_
 replace h := hs.r16 h
 replace h' := hs.r16 h'
 replace hb := hs.bel hb mg59
 replace r75 := hs.r16 r75
 replace bg71 := hs.blk bg71 (Ne.symm q59_71)
 replace bg59 := b'
 clear hs b'
 refine V.t_done rfl (V.nx (V.ret ?_))
 refine V.leave_any (.inl rfl) (V.res_cell rfl rfl s4 (V.lr bg59 Tryz.underlying35 rfl (by kernel_rfl))) ?_
 exact ⟨A69, c70, rfl, r75, n76, hb⟩
theorem over_nn {A A' : Option Addr} {c c' : Nat} {n0 n1 : Bool} {m0 m1 : Nat} {w : World} (nr : Bool) (mr : Nat) (h : R16 w A (Lb.limbs m0).length c (Lb.limbs m0)) (h' : R16 w A' (Lb.limbs m1).length c' (Lb.limbs m1)) (h0 : Nv n0 m0) (h1 : Nv n1 m1) (hm : m1 ≠ 0) (hv : mr = 0 → nr = false) (hz : sgn nr mr = (sgn n0 m0).fdiv (sgn n1 m1)) :
    Calls Tryz.prog 50 #[.agg #[.bool n0, Vs A m0 c], .agg #[.bool n1, Vs A' m1 c']] w (RetN w nr mr) := by
 refine V.nt Tryz.func50 rfl rfl fun f0 hf => ?_
 have s0 : f0 0 = .agg #[.bool n0, Vs A m0 c] := hf 0 (by simp)
 have s1 : f0 1 = .agg #[.bool n1, Vs A' m1 c'] := hf 1 (by simp)
 clear hf
 have hb := Below.refl w.heap.size w
 refine V.seq ?_
 refine V.reg 3 [V.Nb w 35 #[.bool n0, Vs A m0 c], V.Nb w 35 #[.bool n1, Vs A' m1 c'], V.Nb w 35 #[.bool false, .slice none 0 0]] [0, 1, 2] (V.i h (V.i h' hb)) ?_ ?_
 ·refine V.a3 ?_ ?_ ?_
  ·exact V.sn rfl fun f W h => V.x_box (V.eo h 0 s0)
  ·exact V.sn rfl fun f W h => V.x_box (V.eo h 1 s1)
  ·exact V.sn rfl fun f W h => V.x_alloc
 have o_bel := hb.size
 intro f88 W89 e90
 clear h h' hb
 obtain ⟨⟨h, h', hb⟩, z_⟩ := e90.g
 obtain ⟨s0, s1⟩ := V.e2 e90 s0 s1
 obtain ⟨g85, s2, bg85, lg85⟩ := V.eq e90 0 2 rfl
 obtain ⟨g86, s3, bg86, lg86⟩ := V.eq e90 1 3 rfl
 obtain ⟨g87, s4, bg87, lg87⟩ := V.eq e90 2 4 rfl
 have mg87 := Nat.le_trans o_bel lg87
 clear e90 z_
 clear o_bel
 refine V.t_done rfl (V.nx (V.seq ?_))
 refine V.reg 9 [V.E (.agg #[.bool n0, Vs A m0 c]), V.E (.agg #[.bool n1, Vs A' m1 c']), (fun v W => ∃ A91 : Option Addr, ∃ c92 : Nat, ∃ A93 : Option Addr, ∃ c94 : Nat, v = .tuple #[.agg #[.bool nr, Vs A91 mr c92], .agg #[.bool (decide (((sgn n0 m0).fmod (sgn n1 m1)) < 0)), .slice A93 (Lb.limbs ((((sgn n0 m0).fmod (sgn n1 m1))).natAbs)).length c94], .int .i64 0] ∧ R16 W A91 ((Lb.limbs mr).length) c92 (Lb.limbs mr) ∧ R16 W A93 ((Lb.limbs ((((sgn n0 m0).fmod (sgn n1 m1))).natAbs)).length) c94 (Lb.limbs ((((sgn n0 m0).fmod (sgn n1 m1))).natAbs)) ∧ (∀ ad, A91 = some ad → w.heap.size ≤ ad.block) ∧ (∀ ad, A93 = some ad → w.heap.size ≤ ad.block)), (fun v W => ∃ A99 : Option Addr, ∃ c100 : Nat, ∃ A101 : Option Addr, ∃ c102 : Nat, v = .tuple #[.agg #[.bool nr, Vs A99 mr c100], .agg #[.bool (decide (((sgn n0 m0).fmod (sgn n1 m1)) < 0)), .slice A101 (Lb.limbs ((((sgn n0 m0).fmod (sgn n1 m1))).natAbs)).length c102], .int .i64 0] ∧ R16 W A99 ((Lb.limbs mr).length) c100 (Lb.limbs mr) ∧ R16 W A101 ((Lb.limbs ((((sgn n0 m0).fmod (sgn n1 m1))).natAbs)).length) c102 (Lb.limbs ((((sgn n0 m0).fmod (sgn n1 m1))).natAbs)) ∧ (∀ ad, A99 = some ad → w.heap.size ≤ ad.block) ∧ (∀ ad, A101 = some ad → w.heap.size ≤ ad.block)), (fun v W => ∃ A103 : Option Addr, ∃ c104 : Nat, v = .agg #[.bool nr, Vs A103 mr c104] ∧ R16 W A103 ((Lb.limbs mr).length) c104 (Lb.limbs mr) ∧ (∀ ad, A103 = some ad → w.heap.size ≤ ad.block)), (fun v W => ∃ A105 : Option Addr, ∃ c106 : Nat, v = .agg #[.bool (decide (((sgn n0 m0).fmod (sgn n1 m1)) < 0)), .slice A105 (Lb.limbs ((((sgn n0 m0).fmod (sgn n1 m1))).natAbs)).length c106] ∧ R16 W A105 ((Lb.limbs ((((sgn n0 m0).fmod (sgn n1 m1))).natAbs)).length) c106 (Lb.limbs ((((sgn n0 m0).fmod (sgn n1 m1))).natAbs)) ∧ (∀ ad, A105 = some ad → w.heap.size ≤ ad.block)), V.E (.int .i64 0), V.Nb W89 35 #[.bool false, .slice none 0 0], V.Nb W89 35 #[.bool false, .slice none 0 0]] [7, 8] (V.i h (V.i h' (V.i hb (V.i bg85 (V.i bg86 bg87))))) ?_ ?_
 ·refine V.b8 ?_ ?_ ?_ ?_ ?_ ?_ ?_ ?_ (V.ac ?_ V.an)
  ·exact V.z1 rfl fun h => V.xl (V.eo h 2 s2) (V.lr h.g.1.2.2.2.1 Tryz.underlying35)
  ·exact V.z1 rfl fun h => V.xl (V.eo h 3 s3) (V.lr h.g.1.2.2.2.2.1 Tryz.underlying35)
  ·refine V.s2 rfl fun f W h => ?_
   refine V.call en89 (V.args2 (V.ed h 0 9 rfl) (V.ed h 1 10 rfl)) (Calls.mono (Div_nn nr mr h.g.1.1 h.g.1.2.1 h0 h1 hm hv hz) ?_)
   rintro e W' ⟨A91, c92, A93, c94, rfl, k95, k97, p96, p98, hb⟩
   exact ⟨_, rfl, ⟨A91, c92, A93, c94, rfl, k95, k97, (fun ad e => Nat.le_trans h.g.1.2.2.1.size (p96 ad e)), (fun ad e => Nat.le_trans h.g.1.2.2.1.size (p98 ad e))⟩, hb⟩
  ·refine V.s2 rfl fun f W h => ?_
   obtain ⟨A91, c92, A93, c94, a11, k2_0, k2_1, p2_0, p2_1⟩ := V.dp h 2 11 (by kernel_rfl) rfl
   exact V.v2 (.tuple #[.agg #[.bool nr, Vs A91 mr c92], .agg #[.bool (decide (((sgn n0 m0).fmod (sgn n1 m1)) < 0)), .slice A93 (Lb.limbs ((((sgn n0 m0).fmod (sgn n1 m1))).natAbs)).length c94], .int .i64 0]) (V.xm (V.ev_tmp rfl a11)) ⟨A91, c92, A93, c94, rfl, k2_0, k2_1, p2_0, p2_1⟩
  ·refine V.s2 rfl fun f W h => ?_
   obtain ⟨A99, c100, A101, c102, a8, k3_0, k3_1, p3_0, p3_1⟩ := V.dp h 3 8 (by kernel_rfl) rfl
   exact V.v2 (.agg #[.bool nr, Vs A99 mr c100]) (V.xe (V.ev_tmp rfl a8)) ⟨A99, c100, rfl, k3_0, p3_0⟩
  ·refine V.s2 rfl fun f W h => ?_
   obtain ⟨A99, c100, A101, c102, a8, k3_0, k3_1, p3_0, p3_1⟩ := V.dp h 3 8 (by kernel_rfl) rfl
   exact V.v2 (.agg #[.bool (decide (((sgn n0 m0).fmod (sgn n1 m1)) < 0)), .slice A101 (Lb.limbs ((((sgn n0 m0).fmod (sgn n1 m1))).natAbs)).length c102]) (V.xe (V.ev_tmp rfl a8)) ⟨A101, c102, rfl, k3_1, p3_1⟩
  ·refine V.s1 rfl fun f W h => ?_
   obtain ⟨A99, c100, A101, c102, a8, k3_0, k3_1, p3_0, p3_1⟩ := V.dp h 3 8 (by kernel_rfl) rfl
   exact V.xe (V.ev_tmp rfl a8)
  ·exact V.sn rfl fun f W h => V.x_alloc
  ·exact V.sn rfl fun f W h => V.x_alloc
 have o_g85 := bg85.lt
 have o_g86 := bg86.lt
 have o_g87 := bg87.lt
 have o_bel := hb.size
 intro f109 W110 e111
 clear h h' hb bg85 bg86 bg87
 obtain ⟨⟨h, h', hb, bg85, bg86, bg87⟩, z_⟩ := e111.g
 obtain ⟨s0, s1, s4⟩ := V.e3 e111 s0 s1 s4
 obtain ⟨A103, c104, s12, r112, n113⟩ := V.eq e111 4 12 rfl
 obtain ⟨A105, c106, s13, r114, n115⟩ := V.eq e111 5 13 rfl
 have s14 := V.es e111 6 14 rfl
 obtain ⟨g107, s5, bg107, lg107⟩ := V.eq e111 7 5 rfl
 have mg107 := Nat.le_trans o_bel lg107
 have q85_107 : g85 ≠ g107 := by omega
 have q86_107 : g86 ≠ g107 := by omega
 have q87_107 : g87 ≠ g107 := by omega
 obtain ⟨g108, s6, bg108, lg108⟩ := V.eq e111 8 6 rfl
 have mg108 := Nat.le_trans o_bel lg108
 have q85_108 : g85 ≠ g108 := by omega
 have q86_108 : g86 ≠ g108 := by omega
 have q87_108 : g87 ≠ g108 := by omega
 have q107_108 : g107 ≠ g108 := V.ep e111 7 8 5 6 s5 s6
 clear e111 z_
 clear o_bel o_g85 o_g86 o_g87
 refine V.tsr (k := 9) rfl s5 s12 bg107 fun W116 hs b' => ?_
 replace h := hs.r16 h
 replace h' := hs.r16 h'
 replace hb := hs.bel hb mg107
 replace bg85 := hs.blk bg85 q85_107
 replace bg86 := hs.blk bg86 q86_107
 replace bg87 := hs.blk bg87 q87_107
 replace r112 := hs.r16 r112
 replace r114 := hs.r16 r114
 replace bg108 := hs.blk bg108 (Ne.symm q107_108)
 replace bg107 := b'
 clear hs b'
 refine V.tsr (k := 10) rfl s6 s13 bg108 fun W117 hs b' => ?_
 replace h := hs.r16 h
 replace h' := hs.r16 h'
 replace hb := hs.bel hb mg108
 replace bg85 := hs.blk bg85 q85_108
 replace bg86 := hs.blk bg86 q86_108
 replace bg87 := hs.blk bg87 q87_108
 replace r112 := hs.r16 r112
 replace r114 := hs.r16 r114
 replace bg107 := hs.blk bg107 q107_108
 replace bg108 := b'
 clear hs b'
 refine V.t_val (k := 11) (v := .int .i64 0) (t := 7) rfl rfl rfl (by kernel_rfl) trivial (V.xs (V.ev_tmp rfl s14)) ?_
 intro f118 e119 u120
 replace s0 : f118 0 = .agg #[.bool n0, Vs A m0 c] := (u120 0 (by decide)).trans s0
 replace s1 : f118 1 = .agg #[.bool n1, Vs A' m1 c'] := (u120 1 (by decide)).trans s1
 replace s4 : f118 4 = Vp g87 0 := (u120 4 (by decide)).trans s4
 replace s12 : f118 12 = .agg #[.bool nr, Vs A103 mr c104] := (u120 12 (by decide)).trans s12
 replace s13 : f118 13 = .agg #[.bool (decide (((sgn n0 m0).fmod (sgn n1 m1)) < 0)), .slice A105 (Lb.limbs ((((sgn n0 m0).fmod (sgn n1 m1))).natAbs)).length c106] := (u120 13 (by decide)).trans s13
 replace s14 : f118 14 = .int .i64 0 := (u120 14 (by decide)).trans s14
 replace s5 : f118 5 = Vp g107 0 := (u120 5 (by decide)).trans s5
 replace s6 : f118 6 = Vp g108 0 := (u120 6 (by decide)).trans s6
 have s7 := e119
 clear u120
 refine V.t_done rfl (V.nx (V.seq ?_))
 clear bg85 bg86 r114 bg108
 refine V.reg 1 [V.E (.agg #[.bool nr, Vs A103 mr c104])] [] (V.i h (V.i h' (V.i hb (V.i bg87 (V.i r112 bg107))))) ?_ ?_
 ·refine V.ac ?_ V.an
  ·exact V.z1 rfl fun h => V.xl (V.eo h 5 s5) (V.lr h.g.1.2.2.2.2.2 Tryz.underlying35)
 intro f121 W122 e123
 clear h h' hb bg87 r112 bg107
 obtain ⟨⟨h, h', hb, bg87, r112, bg107⟩, z_⟩ := e123.g
 obtain ⟨s0, s1, s4⟩ := V.e3 e123 s0 s1 s4
 have s15 := V.es e123 0 15 rfl
 clear e123 z_
 refine V.tsr (k := 1) rfl s4 s15 bg87 fun W124 hs b' => ?_
 replace h := hs.r16 h
 replace h' := hs.r16 h'
 replace hb := hs.bel hb mg87
 replace r112 := hs.r16 r112
 replace bg107 := hs.blk bg107 (Ne.symm q87_107)
 replace bg87 := b'
 clear hs b'
 refine V.t_done rfl (V.nx (V.ret ?_))
 refine V.leave_any (.inl rfl) (V.res_cell rfl rfl s4 (V.lr bg87 Tryz.underlying35 rfl (by kernel_rfl))) ?_
 exact ⟨A103, c104, rfl, r112, n113, hb⟩
end Go.Proofs.YtjbcalbbhomkjaaGreat
