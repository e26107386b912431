import Derived.Test.YtjbcalbbhomkjaaGreatDIsOne
import Derived.Test.YtjbcalbbhomkjaaGreatDQ
import Derived.Test.YtjbcalbbhomkjaaGreatDVc
set_option maxRecDepth 20000
set_option maxHeartbeats 2000000
namespace Go.Proofs.YtjbcalbbhomkjaaGreat
open Go.RowKit
attribute [local irreducible] RI.frame RI.act RI.Ob RI.Tail RI.out V.Wp V.Fn Oper.wp
theorem en89 : En 89 := enters_of Tryz.func89 (by kernel_rfl) rfl
theorem en90 : En 90 := enters_of Tryz.func90 (by kernel_rfl) rfl
theorem en98 : En 98 := enters_of Tryz.func98 (by kernel_rfl) rfl
theorem en128 : En 128 := enters_of Tryz.func128 (by kernel_rfl) rfl
theorem product_nn {A A' : Option Addr} {c c' : Nat} {n0 n1 : Bool} {m0 m1 : Nat} {w : World} (nr : Bool) (mr : Nat) (h : R16 w A (Lb.limbs m0).length c (Lb.limbs m0)) (h' : R16 w A' (Lb.limbs m1).length c' (Lb.limbs m1)) (h0 : Nv n0 m0) (h1 : Nv n1 m1) (hr : Nv nr mr) (hz : sgn nr mr = sgn n0 m0 * sgn n1 m1) :
    Calls Tryz.prog 56 #[.agg #[.bool n0, Vs A m0 c], .agg #[.bool n1, Vs A' m1 c']] w (RetN w nr mr) := by
 refine V.enter Tryz.func56 rfl rfl (by simp) fun f0 hf => ?_
 have s0 : f0 0 = .agg #[.bool n0, Vs A m0 c] := hf 0 (by simp)
 have s1 : f0 1 = .agg #[.bool n1, Vs A' m1 c'] := hf 1 (by simp)
 clear hf
 have hb : Below w.heap.size w w := Below.refl _ _
 refine V.seq ?_
 refine V.reg 3 [V.Nb w 35 #[.bool n0, Vs A m0 c], V.Nb w 35 #[.bool n1, Vs A' m1 c'], V.Nb w 35 #[.bool false, .slice none 0 0]] [0, 1, 2] (V.i h (V.i h' hb)) ?_ ?_
 ·refine V.ac ?_ (V.ac ?_ (V.ac ?_ V.an))
  ·exact V.sn rfl fun f W h => V.x_box (V.eo h 0 s0)
  ·exact V.sn rfl fun f W h => V.x_box (V.eo h 1 s1)
  ·exact V.sn rfl fun f W h => V.x_alloc
 have o_bel := hb.size
 intro f4 W5 hE6
 clear h h' hb
 obtain ⟨⟨h, h', hb⟩, hsz⟩ := hE6.g
 obtain ⟨s0, s1⟩ := V.e2 hE6 s0 s1
 obtain ⟨g1, s2, b_g1, l_g1⟩ := V.eq hE6 0 2 rfl
 obtain ⟨g2, s3, b_g2, l_g2⟩ := V.eq hE6 1 3 rfl
 obtain ⟨g3, s4, b_g3, l_g3⟩ := V.eq hE6 2 4 rfl
 have m_g3 : w.heap.size ≤ g3 := Nat.le_trans o_bel l_g3
 clear hE6 hsz
 clear o_bel
 refine V.t_done rfl (V.nx (V.seq ?_))
 refine V.reg 7 [V.E (.agg #[.bool n0, Vs A m0 c]), V.E (.agg #[.bool n1, Vs A' m1 c']), (fun v W => ∃ A7 : Option Addr, ∃ c8 : Nat, v = .tuple #[.agg #[.bool nr, Vs A7 mr c8], .int .i64 0] ∧ R16 W A7 ((Lb.limbs mr).length) c8 (Lb.limbs mr) ∧ (∀ ad, A7 = some ad → w.heap.size ≤ ad.block)), (fun v W => ∃ A11 : Option Addr, ∃ c12 : Nat, v = .tuple #[.agg #[.bool nr, Vs A11 mr c12], .int .i64 0] ∧ R16 W A11 ((Lb.limbs mr).length) c12 (Lb.limbs mr) ∧ (∀ ad, A11 = some ad → w.heap.size ≤ ad.block)), (fun v W => ∃ A13 : Option Addr, ∃ c14 : Nat, v = .agg #[.bool nr, Vs A13 mr c14] ∧ R16 W A13 ((Lb.limbs mr).length) c14 (Lb.limbs mr) ∧ (∀ ad, A13 = some ad → w.heap.size ≤ ad.block)), V.E (.int .i64 0), V.Nb W5 35 #[.bool false, .slice none 0 0]] [6] (V.i h (V.i h' (V.i hb (V.i b_g1 (V.i b_g2 b_g3))))) ?_ ?_
 ·refine V.ac ?_ (V.ac ?_ (V.ac ?_ (V.ac ?_ (V.ac ?_ (V.ac ?_ (V.ac ?_ V.an))))))
  ·exact V.z1 rfl fun h => V.xl (V.eo h 2 s2) (V.lr h.g.1.2.2.2.1 Tryz.underlying35)
  ·exact V.z1 rfl fun h => V.xl (V.eo h 3 s3) (V.lr h.g.1.2.2.2.2.1 Tryz.underlying35)
  ·refine V.s2 rfl fun f W h => ?_
   refine V.call en98 (V.args2 (V.ed h 0 8 rfl) (V.ed h 1 9 rfl)) (Calls.mono (Mul_nn nr mr h.g.1.1 h.g.1.2.1 h0 h1 hr hz) ?_)
   rintro e W' ⟨A7, c8, rfl, k9, p10, hb⟩
   exact ⟨_, rfl, ⟨A7, c8, rfl, k9, (fun ad e => Nat.le_trans h.g.1.2.2.1.size (p10 ad e))⟩, hb⟩
  ·refine V.s2 rfl fun f W h => ?_
   obtain ⟨A7, c8, a10, k2_0, p2_0⟩ := V.dp h 2 10 (by kernel_rfl) rfl
   exact V.v2 (.tuple #[.agg #[.bool nr, Vs A7 mr c8], .int .i64 0]) (V.xm (V.ev_tmp rfl a10)) ⟨A7, c8, rfl, k2_0, p2_0⟩
  ·refine V.s2 rfl fun f W h => ?_
   obtain ⟨A11, c12, a7, k3_0, p3_0⟩ := V.dp h 3 7 (by kernel_rfl) rfl
   exact V.v2 (.agg #[.bool nr, Vs A11 mr c12]) (V.xe (V.ev_tmp rfl a7)) ⟨A11, c12, rfl, k3_0, p3_0⟩
  ·refine V.s1 rfl fun f W h => ?_
   obtain ⟨A11, c12, a7, k3_0, p3_0⟩ := V.dp h 3 7 (by kernel_rfl) rfl
   exact V.xe (V.ev_tmp rfl a7)
  ·exact V.sn rfl fun f W h => V.x_alloc
 have o_g1 := b_g1.lt
 have o_g2 := b_g2.lt
 have o_g3 := b_g3.lt
 have o_bel := hb.size
 intro f16 W17 hE18
 clear h h' hb b_g1 b_g2 b_g3
 obtain ⟨⟨h, h', hb, b_g1, b_g2, b_g3⟩, hsz⟩ := hE18.g
 obtain ⟨s0, s1, s4⟩ := V.e3 hE18 s0 s1 s4
 obtain ⟨A13, c14, s11, r19, n20⟩ := V.eq hE18 4 11 rfl
 have s12 := V.es hE18 5 12 rfl
 obtain ⟨g15, s5, b_g15, l_g15⟩ := V.eq hE18 6 5 rfl
 have m_g15 : w.heap.size ≤ g15 := Nat.le_trans o_bel l_g15
 have q_g1_g15 : g1 ≠ g15 := by omega
 have q_g2_g15 : g2 ≠ g15 := by omega
 have q_g3_g15 : g3 ≠ g15 := by omega
 clear hE18 hsz
 clear o_bel o_g1 o_g2 o_g3
 refine V.t_st (k := 7) rfl (V.x_store (V.ev_tmp rfl s5) (V.ev_tmp rfl s11) (V.st_row b_g15)) b_g15 fun W21 hs b' => ?_
 replace h := hs.r16 h
 replace h' := hs.r16 h'
 replace hb := hs.bel hb m_g15
 replace b_g1 := hs.blk b_g1 q_g1_g15
 replace b_g2 := hs.blk b_g2 q_g2_g15
 replace b_g3 := hs.blk b_g3 q_g3_g15
 replace r19 := hs.r16 r19
 replace b_g15 := b'
 clear hs b'
 refine V.t_val (k := 8) (v := .int .i64 0) (t := 6) rfl rfl rfl (by kernel_rfl) trivial (V.xs (V.ev_tmp rfl s12)) ?_
 intro f22 e23 u24
 replace s0 : f22 0 = .agg #[.bool n0, Vs A m0 c] := (u24 0 (by decide)).trans s0
 replace s1 : f22 1 = .agg #[.bool n1, Vs A' m1 c'] := (u24 1 (by decide)).trans s1
 replace s4 : f22 4 = Vp g3 0 := (u24 4 (by decide)).trans s4
 replace s11 : f22 11 = .agg #[.bool nr, Vs A13 mr c14] := (u24 11 (by decide)).trans s11
 replace s12 : f22 12 = .int .i64 0 := (u24 12 (by decide)).trans s12
 replace s5 : f22 5 = Vp g15 0 := (u24 5 (by decide)).trans s5
 have s6 := e23
 clear u24
 refine V.t_done rfl (V.nx (V.seq ?_))
 clear b_g1 b_g2
 refine V.reg 1 [V.E (.agg #[.bool nr, Vs A13 mr c14])] [] (V.i h (V.i h' (V.i hb (V.i b_g3 (V.i r19 b_g15))))) ?_ ?_
 ·refine V.ac ?_ V.an
  ·exact V.z1 rfl fun h => V.xl (V.eo h 5 s5) (V.lr h.g.1.2.2.2.2.2 Tryz.underlying35)
 intro f25 W26 hE27
 clear h h' hb b_g3 r19 b_g15
 obtain ⟨⟨h, h', hb, b_g3, r19, b_g15⟩, hsz⟩ := hE27.g
 obtain ⟨s0, s1, s4⟩ := V.e3 hE27 s0 s1 s4
 have s13 := V.es hE27 0 13 rfl
 clear hE27 hsz
 refine V.t_st (k := 1) rfl (V.x_store (V.ev_tmp rfl s4) (V.ev_tmp rfl s13) (V.st_row b_g3)) b_g3 fun W28 hs b' => ?_
 replace h := hs.r16 h
 replace h' := hs.r16 h'
 replace hb := hs.bel hb m_g3
 replace r19 := hs.r16 r19
 replace b_g15 := hs.blk b_g15 (Ne.symm q_g3_g15)
 replace b_g3 := b'
 clear hs b'
 refine V.t_done rfl (V.nx (V.ret ?_))
 refine V.leave_any (.inl rfl) (V.res_cell rfl rfl s4 (V.lr b_g3 Tryz.underlying35 rfl (by kernel_rfl))) ?_
 exact ⟨A13, c14, rfl, r19, n20, hb⟩
theorem sum_nn {A A' : Option Addr} {c c' : Nat} {n0 n1 : Bool} {m0 m1 : Nat} {w : World} (nr : Bool) (mr : Nat) (h : R16 w A (Lb.limbs m0).length c (Lb.limbs m0)) (h' : R16 w A' (Lb.limbs m1).length c' (Lb.limbs m1)) (h0 : Nv n0 m0) (h1 : Nv n1 m1) (hr : Nv nr mr) (hz : sgn nr mr = sgn n0 m0 + sgn n1 m1) :
    Calls Tryz.prog 94 #[.agg #[.bool n0, Vs A m0 c], .agg #[.bool n1, Vs A' m1 c']] w (RetN w nr mr) := by
 refine V.enter Tryz.func94 rfl rfl (by simp) fun f0 hf => ?_
 have s0 : f0 0 = .agg #[.bool n0, Vs A m0 c] := hf 0 (by simp)
 have s1 : f0 1 = .agg #[.bool n1, Vs A' m1 c'] := hf 1 (by simp)
 clear hf
 have hb : Below w.heap.size w w := Below.refl _ _
 refine V.seq ?_
 refine V.reg 3 [V.Nb w 35 #[.bool n0, Vs A m0 c], V.Nb w 35 #[.bool n1, Vs A' m1 c'], V.Nb w 35 #[.bool false, .slice none 0 0]] [0, 1, 2] (V.i h (V.i h' hb)) ?_ ?_
 ·refine V.ac ?_ (V.ac ?_ (V.ac ?_ V.an))
  ·exact V.sn rfl fun f W h => V.x_box (V.eo h 0 s0)
  ·exact V.sn rfl fun f W h => V.x_box (V.eo h 1 s1)
  ·exact V.sn rfl fun f W h => V.x_alloc
 have o_bel := hb.size
 intro f32 W33 hE34
 clear h h' hb
 obtain ⟨⟨h, h', hb⟩, hsz⟩ := hE34.g
 obtain ⟨s0, s1⟩ := V.e2 hE34 s0 s1
 obtain ⟨g29, s2, b_g29, l_g29⟩ := V.eq hE34 0 2 rfl
 obtain ⟨g30, s3, b_g30, l_g30⟩ := V.eq hE34 1 3 rfl
 obtain ⟨g31, s4, b_g31, l_g31⟩ := V.eq hE34 2 4 rfl
 have m_g31 : w.heap.size ≤ g31 := Nat.le_trans o_bel l_g31
 clear hE34 hsz
 clear o_bel
 refine V.t_done rfl (V.nx (V.seq ?_))
 refine V.reg 7 [V.E (.agg #[.bool n0, Vs A m0 c]), V.E (.agg #[.bool n1, Vs A' m1 c']), (fun v W => ∃ A35 : Option Addr, ∃ c36 : Nat, v = .tuple #[.agg #[.bool nr, Vs A35 mr c36], .int .i64 0] ∧ R16 W A35 ((Lb.limbs mr).length) c36 (Lb.limbs mr) ∧ (∀ ad, A35 = some ad → w.heap.size ≤ ad.block)), (fun v W => ∃ A39 : Option Addr, ∃ c40 : Nat, v = .tuple #[.agg #[.bool nr, Vs A39 mr c40], .int .i64 0] ∧ R16 W A39 ((Lb.limbs mr).length) c40 (Lb.limbs mr) ∧ (∀ ad, A39 = some ad → w.heap.size ≤ ad.block)), (fun v W => ∃ A41 : Option Addr, ∃ c42 : Nat, v = .agg #[.bool nr, Vs A41 mr c42] ∧ R16 W A41 ((Lb.limbs mr).length) c42 (Lb.limbs mr) ∧ (∀ ad, A41 = some ad → w.heap.size ≤ ad.block)), V.E (.int .i64 0), V.Nb W33 35 #[.bool false, .slice none 0 0]] [6] (V.i h (V.i h' (V.i hb (V.i b_g29 (V.i b_g30 b_g31))))) ?_ ?_
 ·refine V.ac ?_ (V.ac ?_ (V.ac ?_ (V.ac ?_ (V.ac ?_ (V.ac ?_ (V.ac ?_ V.an))))))
  ·exact V.z1 rfl fun h => V.xl (V.eo h 2 s2) (V.lr h.g.1.2.2.2.1 Tryz.underlying35)
  ·exact V.z1 rfl fun h => V.xl (V.eo h 3 s3) (V.lr h.g.1.2.2.2.2.1 Tryz.underlying35)
  ·refine V.s2 rfl fun f W h => ?_
   refine V.call en128 (V.args2 (V.ed h 0 8 rfl) (V.ed h 1 9 rfl)) (Calls.mono (Add_nn nr mr h.g.1.1 h.g.1.2.1 h0 h1 hr hz) ?_)
   rintro e W' ⟨A35, c36, rfl, k37, p38, hb⟩
   exact ⟨_, rfl, ⟨A35, c36, rfl, k37, (fun ad e => Nat.le_trans h.g.1.2.2.1.size (p38 ad e))⟩, hb⟩
  ·refine V.s2 rfl fun f W h => ?_
   obtain ⟨A35, c36, a10, k2_0, p2_0⟩ := V.dp h 2 10 (by kernel_rfl) rfl
   exact V.v2 (.tuple #[.agg #[.bool nr, Vs A35 mr c36], .int .i64 0]) (V.xm (V.ev_tmp rfl a10)) ⟨A35, c36, rfl, k2_0, p2_0⟩
  ·refine V.s2 rfl fun f W h => ?_
   obtain ⟨A39, c40, a7, k3_0, p3_0⟩ := V.dp h 3 7 (by kernel_rfl) rfl
   exact V.v2 (.agg #[.bool nr, Vs A39 mr c40]) (V.xe (V.ev_tmp rfl a7)) ⟨A39, c40, rfl, k3_0, p3_0⟩
  ·refine V.s1 rfl fun f W h => ?_
   obtain ⟨A39, c40, a7, k3_0, p3_0⟩ := V.dp h 3 7 (by kernel_rfl) rfl
   exact V.xe (V.ev_tmp rfl a7)
  ·exact V.sn rfl fun f W h => V.x_alloc
 have o_g29 := b_g29.lt
 have o_g30 := b_g30.lt
 have o_g31 := b_g31.lt
 have o_bel := hb.size
 intro f44 W45 hE46
 clear h h' hb b_g29 b_g30 b_g31
 obtain ⟨⟨h, h', hb, b_g29, b_g30, b_g31⟩, hsz⟩ := hE46.g
 obtain ⟨s0, s1, s4⟩ := V.e3 hE46 s0 s1 s4
 obtain ⟨A41, c42, s11, r47, n48⟩ := V.eq hE46 4 11 rfl
 have s12 := V.es hE46 5 12 rfl
 obtain ⟨g43, s5, b_g43, l_g43⟩ := V.eq hE46 6 5 rfl
 have m_g43 : w.heap.size ≤ g43 := Nat.le_trans o_bel l_g43
 have q_g29_g43 : g29 ≠ g43 := by omega
 have q_g30_g43 : g30 ≠ g43 := by omega
 have q_g31_g43 : g31 ≠ g43 := by omega
 clear hE46 hsz
 clear o_bel o_g29 o_g30 o_g31
 refine V.t_st (k := 7) rfl (V.x_store (V.ev_tmp rfl s5) (V.ev_tmp rfl s11) (V.st_row b_g43)) b_g43 fun W49 hs b' => ?_
 replace h := hs.r16 h
 replace h' := hs.r16 h'
 replace hb := hs.bel hb m_g43
 replace b_g29 := hs.blk b_g29 q_g29_g43
 replace b_g30 := hs.blk b_g30 q_g30_g43
 replace b_g31 := hs.blk b_g31 q_g31_g43
 replace r47 := hs.r16 r47
 replace b_g43 := b'
 clear hs b'
 refine V.t_val (k := 8) (v := .int .i64 0) (t := 6) rfl rfl rfl (by kernel_rfl) trivial (V.xs (V.ev_tmp rfl s12)) ?_
 intro f50 e51 u52
 replace s0 : f50 0 = .agg #[.bool n0, Vs A m0 c] := (u52 0 (by decide)).trans s0
 replace s1 : f50 1 = .agg #[.bool n1, Vs A' m1 c'] := (u52 1 (by decide)).trans s1
 replace s4 : f50 4 = Vp g31 0 := (u52 4 (by decide)).trans s4
 replace s11 : f50 11 = .agg #[.bool nr, Vs A41 mr c42] := (u52 11 (by decide)).trans s11
 replace s12 : f50 12 = .int .i64 0 := (u52 12 (by decide)).trans s12
 replace s5 : f50 5 = Vp g43 0 := (u52 5 (by decide)).trans s5
 have s6 := e51
 clear u52
 refine V.t_done rfl (V.nx (V.seq ?_))
 clear b_g29 b_g30
 refine V.reg 1 [V.E (.agg #[.bool nr, Vs A41 mr c42])] [] (V.i h (V.i h' (V.i hb (V.i b_g31 (V.i r47 b_g43))))) ?_ ?_
 ·refine V.ac ?_ V.an
  ·exact V.z1 rfl fun h => V.xl (V.eo h 5 s5) (V.lr h.g.1.2.2.2.2.2 Tryz.underlying35)
 intro f53 W54 hE55
 clear h h' hb b_g31 r47 b_g43
 obtain ⟨⟨h, h', hb, b_g31, r47, b_g43⟩, hsz⟩ := hE55.g
 obtain ⟨s0, s1, s4⟩ := V.e3 hE55 s0 s1 s4
 have s13 := V.es hE55 0 13 rfl
 clear hE55 hsz
 refine V.t_st (k := 1) rfl (V.x_store (V.ev_tmp rfl s4) (V.ev_tmp rfl s13) (V.st_row b_g31)) b_g31 fun W56 hs b' => ?_
 replace h := hs.r16 h
 replace h' := hs.r16 h'
 replace hb := hs.bel hb m_g31
 replace r47 := hs.r16 r47
 replace b_g43 := hs.blk b_g43 (Ne.symm q_g31_g43)
 replace b_g31 := b'
 clear hs b'
 refine V.t_done rfl (V.nx (V.ret ?_))
 refine V.leave_any (.inl rfl) (V.res_cell rfl rfl s4 (V.lr b_g31 Tryz.underlying35 rfl (by kernel_rfl))) ?_
 exact ⟨A41, c42, rfl, r47, n48, hb⟩
theorem common_nn {A A' : Option Addr} {c c' : Nat} {n0 n1 : Bool} {m0 m1 : Nat} {w : World}  (h : R16 w A (Lb.limbs m0).length c (Lb.limbs m0)) (h' : R16 w A' (Lb.limbs m1).length c' (Lb.limbs m1)) (h0 : Nv n0 m0) (h1 : Nv n1 m1)  :
    Calls Tryz.prog 48 #[.agg #[.bool n0, Vs A m0 c], .agg #[.bool n1, Vs A' m1 c']] w (RetN w false (Nat.gcd m0 m1)) := by
 refine V.enter Tryz.func48 rfl rfl (by simp) fun f0 hf => ?_
 have s0 : f0 0 = .agg #[.bool n0, Vs A m0 c] := hf 0 (by simp)
 have s1 : f0 1 = .agg #[.bool n1, Vs A' m1 c'] := hf 1 (by simp)
 clear hf
 have hb : Below w.heap.size w w := Below.refl _ _
 refine V.seq ?_
 refine V.reg 3 [V.Nb w 35 #[.bool n0, Vs A m0 c], V.Nb w 35 #[.bool n1, Vs A' m1 c'], V.Nb w 35 #[.bool false, .slice none 0 0]] [0, 1, 2] (V.i h (V.i h' hb)) ?_ ?_
 ·refine V.ac ?_ (V.ac ?_ (V.ac ?_ V.an))
  ·exact V.sn rfl fun f W h => V.x_box (V.eo h 0 s0)
  ·exact V.sn rfl fun f W h => V.x_box (V.eo h 1 s1)
  ·exact V.sn rfl fun f W h => V.x_alloc
 have o_bel := hb.size
 intro f60 W61 hE62
 clear h h' hb
 obtain ⟨⟨h, h', hb⟩, hsz⟩ := hE62.g
 obtain ⟨s0, s1⟩ := V.e2 hE62 s0 s1
 obtain ⟨g57, s2, b_g57, l_g57⟩ := V.eq hE62 0 2 rfl
 obtain ⟨g58, s3, b_g58, l_g58⟩ := V.eq hE62 1 3 rfl
 obtain ⟨g59, s4, b_g59, l_g59⟩ := V.eq hE62 2 4 rfl
 have m_g59 : w.heap.size ≤ g59 := Nat.le_trans o_bel l_g59
 clear hE62 hsz
 clear o_bel
 refine V.t_done rfl (V.nx (V.seq ?_))
 refine V.reg 7 [V.E (.agg #[.bool n0, Vs A m0 c]), V.E (.agg #[.bool n1, Vs A' m1 c']), (fun v W => ∃ A63 : Option Addr, ∃ c64 : Nat, v = .tuple #[.agg #[.bool false, Vs A63 (Nat.gcd m0 m1) c64], .int .i64 0] ∧ R16 W A63 ((Lb.limbs (Nat.gcd m0 m1)).length) c64 (Lb.limbs (Nat.gcd m0 m1)) ∧ (∀ ad, A63 = some ad → w.heap.size ≤ ad.block)), (fun v W => ∃ A67 : Option Addr, ∃ c68 : Nat, v = .tuple #[.agg #[.bool false, Vs A67 (Nat.gcd m0 m1) c68], .int .i64 0] ∧ R16 W A67 ((Lb.limbs (Nat.gcd m0 m1)).length) c68 (Lb.limbs (Nat.gcd m0 m1)) ∧ (∀ ad, A67 = some ad → w.heap.size ≤ ad.block)), (fun v W => ∃ A69 : Option Addr, ∃ c70 : Nat, v = .agg #[.bool false, Vs A69 (Nat.gcd m0 m1) c70] ∧ R16 W A69 ((Lb.limbs (Nat.gcd m0 m1)).length) c70 (Lb.limbs (Nat.gcd m0 m1)) ∧ (∀ ad, A69 = some ad → w.heap.size ≤ ad.block)), V.E (.int .i64 0), V.Nb W61 35 #[.bool false, .slice none 0 0]] [6] (V.i h (V.i h' (V.i hb (V.i b_g57 (V.i b_g58 b_g59))))) ?_ ?_
 ·refine V.ac ?_ (V.ac ?_ (V.ac ?_ (V.ac ?_ (V.ac ?_ (V.ac ?_ (V.ac ?_ V.an))))))
  ·exact V.z1 rfl fun h => V.xl (V.eo h 2 s2) (V.lr h.g.1.2.2.2.1 Tryz.underlying35)
  ·exact V.z1 rfl fun h => V.xl (V.eo h 3 s3) (V.lr h.g.1.2.2.2.2.1 Tryz.underlying35)
  ·refine V.s2 rfl fun f W h => ?_
   refine V.call en90 (V.args2 (V.ed h 0 8 rfl) (V.ed h 1 9 rfl)) (Calls.mono (Gcd_nn h.g.1.1 h.g.1.2.1 h0 h1) ?_)
   rintro e W' ⟨A63, c64, rfl, k65, p66, hb⟩
   exact ⟨_, rfl, ⟨A63, c64, rfl, k65, (fun ad e => Nat.le_trans h.g.1.2.2.1.size (p66 ad e))⟩, hb⟩
  ·refine V.s2 rfl fun f W h => ?_
   obtain ⟨A63, c64, a10, k2_0, p2_0⟩ := V.dp h 2 10 (by kernel_rfl) rfl
   exact V.v2 (.tuple #[.agg #[.bool false, Vs A63 (Nat.gcd m0 m1) c64], .int .i64 0]) (V.xm (V.ev_tmp rfl a10)) ⟨A63, c64, rfl, k2_0, p2_0⟩
  ·refine V.s2 rfl fun f W h => ?_
   obtain ⟨A67, c68, a7, k3_0, p3_0⟩ := V.dp h 3 7 (by kernel_rfl) rfl
   exact V.v2 (.agg #[.bool false, Vs A67 (Nat.gcd m0 m1) c68]) (V.xe (V.ev_tmp rfl a7)) ⟨A67, c68, rfl, k3_0, p3_0⟩
  ·refine V.s1 rfl fun f W h => ?_
   obtain ⟨A67, c68, a7, k3_0, p3_0⟩ := V.dp h 3 7 (by kernel_rfl) rfl
   exact V.xe (V.ev_tmp rfl a7)
  ·exact V.sn rfl fun f W h => V.x_alloc
 have o_g57 := b_g57.lt
 have o_g58 := b_g58.lt
 have o_g59 := b_g59.lt
 have o_bel := hb.size
 intro f72 W73 hE74
 clear h h' hb b_g57 b_g58 b_g59
 obtain ⟨⟨h, h', hb, b_g57, b_g58, b_g59⟩, hsz⟩ := hE74.g
 obtain ⟨s0, s1, s4⟩ := V.e3 hE74 s0 s1 s4
 obtain ⟨A69, c70, s11, r75, n76⟩ := V.eq hE74 4 11 rfl
 have s12 := V.es hE74 5 12 rfl
 obtain ⟨g71, s5, b_g71, l_g71⟩ := V.eq hE74 6 5 rfl
 have m_g71 : w.heap.size ≤ g71 := Nat.le_trans o_bel l_g71
 have q_g57_g71 : g57 ≠ g71 := by omega
 have q_g58_g71 : g58 ≠ g71 := by omega
 have q_g59_g71 : g59 ≠ g71 := by omega
 clear hE74 hsz
 clear o_bel o_g57 o_g58 o_g59
 refine V.t_st (k := 7) rfl (V.x_store (V.ev_tmp rfl s5) (V.ev_tmp rfl s11) (V.st_row b_g71)) b_g71 fun W77 hs b' => ?_
 replace h := hs.r16 h
 replace h' := hs.r16 h'
 replace hb := hs.bel hb m_g71
 replace b_g57 := hs.blk b_g57 q_g57_g71
 replace b_g58 := hs.blk b_g58 q_g58_g71
 replace b_g59 := hs.blk b_g59 q_g59_g71
 replace r75 := hs.r16 r75
 replace b_g71 := b'
 clear hs b'
 refine V.t_val (k := 8) (v := .int .i64 0) (t := 6) rfl rfl rfl (by kernel_rfl) trivial (V.xs (V.ev_tmp rfl s12)) ?_
 intro f78 e79 u80
 replace s0 : f78 0 = .agg #[.bool n0, Vs A m0 c] := (u80 0 (by decide)).trans s0
 replace s1 : f78 1 = .agg #[.bool n1, Vs A' m1 c'] := (u80 1 (by decide)).trans s1
 replace s4 : f78 4 = Vp g59 0 := (u80 4 (by decide)).trans s4
 replace s11 : f78 11 = .agg #[.bool false, Vs A69 (Nat.gcd m0 m1) c70] := (u80 11 (by decide)).trans s11
 replace s12 : f78 12 = .int .i64 0 := (u80 12 (by decide)).trans s12
 replace s5 : f78 5 = Vp g71 0 := (u80 5 (by decide)).trans s5
 have s6 := e79
 clear u80
 refine V.t_done rfl (V.nx (V.seq ?_))
 clear b_g57 b_g58
 refine V.reg 1 [V.E (.agg #[.bool false, Vs A69 (Nat.gcd m0 m1) c70])] [] (V.i h (V.i h' (V.i hb (V.i b_g59 (V.i r75 b_g71))))) ?_ ?_
 ·refine V.ac ?_ V.an
  ·exact V.z1 rfl fun h => V.xl (V.eo h 5 s5) (V.lr h.g.1.2.2.2.2.2 Tryz.underlying35)
 intro f81 W82 hE83
 clear h h' hb b_g59 r75 b_g71
 obtain ⟨⟨h, h', hb, b_g59, r75, b_g71⟩, hsz⟩ := hE83.g
 obtain ⟨s0, s1, s4⟩ := V.e3 hE83 s0 s1 s4
 have s13 := V.es hE83 0 13 rfl
 clear hE83 hsz
 refine V.t_st (k := 1) rfl (V.x_store (V.ev_tmp rfl s4) (V.ev_tmp rfl s13) (V.st_row b_g59)) b_g59 fun W84 hs b' => ?_
 replace h := hs.r16 h
 replace h' := hs.r16 h'
 replace hb := hs.bel hb m_g59
 replace r75 := hs.r16 r75
 replace b_g71 := hs.blk b_g71 (Ne.symm q_g59_g71)
 replace b_g59 := b'
 clear hs b'
 refine V.t_done rfl (V.nx (V.ret ?_))
 refine V.leave_any (.inl rfl) (V.res_cell rfl rfl s4 (V.lr b_g59 Tryz.underlying35 rfl (by kernel_rfl))) ?_
 exact ⟨A69, c70, rfl, r75, n76, hb⟩
theorem over_nn {A A' : Option Addr} {c c' : Nat} {n0 n1 : Bool} {m0 m1 : Nat} {w : World} (nr : Bool) (mr : Nat) (h : R16 w A (Lb.limbs m0).length c (Lb.limbs m0)) (h' : R16 w A' (Lb.limbs m1).length c' (Lb.limbs m1)) (h0 : Nv n0 m0) (h1 : Nv n1 m1) (hm : m1 ≠ 0) (hv : mr = 0 → nr = false) (hz : sgn nr mr = (sgn n0 m0).fdiv (sgn n1 m1)) :
    Calls Tryz.prog 50 #[.agg #[.bool n0, Vs A m0 c], .agg #[.bool n1, Vs A' m1 c']] w (RetN w nr mr) := by
 refine V.enter Tryz.func50 rfl rfl (by simp) fun f0 hf => ?_
 have s0 : f0 0 = .agg #[.bool n0, Vs A m0 c] := hf 0 (by simp)
 have s1 : f0 1 = .agg #[.bool n1, Vs A' m1 c'] := hf 1 (by simp)
 clear hf
 have hb : Below w.heap.size w w := Below.refl _ _
 refine V.seq ?_
 refine V.reg 3 [V.Nb w 35 #[.bool n0, Vs A m0 c], V.Nb w 35 #[.bool n1, Vs A' m1 c'], V.Nb w 35 #[.bool false, .slice none 0 0]] [0, 1, 2] (V.i h (V.i h' hb)) ?_ ?_
 ·refine V.ac ?_ (V.ac ?_ (V.ac ?_ V.an))
  ·exact V.sn rfl fun f W h => V.x_box (V.eo h 0 s0)
  ·exact V.sn rfl fun f W h => V.x_box (V.eo h 1 s1)
  ·exact V.sn rfl fun f W h => V.x_alloc
 have o_bel := hb.size
 intro f88 W89 hE90
 clear h h' hb
 obtain ⟨⟨h, h', hb⟩, hsz⟩ := hE90.g
 obtain ⟨s0, s1⟩ := V.e2 hE90 s0 s1
 obtain ⟨g85, s2, b_g85, l_g85⟩ := V.eq hE90 0 2 rfl
 obtain ⟨g86, s3, b_g86, l_g86⟩ := V.eq hE90 1 3 rfl
 obtain ⟨g87, s4, b_g87, l_g87⟩ := V.eq hE90 2 4 rfl
 have m_g87 : w.heap.size ≤ g87 := Nat.le_trans o_bel l_g87
 clear hE90 hsz
 clear o_bel
 refine V.t_done rfl (V.nx (V.seq ?_))
 refine V.reg 9 [V.E (.agg #[.bool n0, Vs A m0 c]), V.E (.agg #[.bool n1, Vs A' m1 c']), (fun v W => ∃ A91 : Option Addr, ∃ c92 : Nat, ∃ A93 : Option Addr, ∃ c94 : Nat, v = .tuple #[.agg #[.bool nr, Vs A91 mr c92], .agg #[.bool (decide (((sgn n0 m0).fmod (sgn n1 m1)) < 0)), .slice A93 (Lb.limbs ((((sgn n0 m0).fmod (sgn n1 m1))).natAbs)).length c94], .int .i64 0] ∧ R16 W A91 ((Lb.limbs mr).length) c92 (Lb.limbs mr) ∧ R16 W A93 ((Lb.limbs ((((sgn n0 m0).fmod (sgn n1 m1))).natAbs)).length) c94 (Lb.limbs ((((sgn n0 m0).fmod (sgn n1 m1))).natAbs)) ∧ (∀ ad, A91 = some ad → w.heap.size ≤ ad.block) ∧ (∀ ad, A93 = some ad → w.heap.size ≤ ad.block)), (fun v W => ∃ A99 : Option Addr, ∃ c100 : Nat, ∃ A101 : Option Addr, ∃ c102 : Nat, v = .tuple #[.agg #[.bool nr, Vs A99 mr c100], .agg #[.bool (decide (((sgn n0 m0).fmod (sgn n1 m1)) < 0)), .slice A101 (Lb.limbs ((((sgn n0 m0).fmod (sgn n1 m1))).natAbs)).length c102], .int .i64 0] ∧ R16 W A99 ((Lb.limbs mr).length) c100 (Lb.limbs mr) ∧ R16 W A101 ((Lb.limbs ((((sgn n0 m0).fmod (sgn n1 m1))).natAbs)).length) c102 (Lb.limbs ((((sgn n0 m0).fmod (sgn n1 m1))).natAbs)) ∧ (∀ ad, A99 = some ad → w.heap.size ≤ ad.block) ∧ (∀ ad, A101 = some ad → w.heap.size ≤ ad.block)), (fun v W => ∃ A103 : Option Addr, ∃ c104 : Nat, v = .agg #[.bool nr, Vs A103 mr c104] ∧ R16 W A103 ((Lb.limbs mr).length) c104 (Lb.limbs mr) ∧ (∀ ad, A103 = some ad → w.heap.size ≤ ad.block)), (fun v W => ∃ A105 : Option Addr, ∃ c106 : Nat, v = .agg #[.bool (decide (((sgn n0 m0).fmod (sgn n1 m1)) < 0)), .slice A105 (Lb.limbs ((((sgn n0 m0).fmod (sgn n1 m1))).natAbs)).length c106] ∧ R16 W A105 ((Lb.limbs ((((sgn n0 m0).fmod (sgn n1 m1))).natAbs)).length) c106 (Lb.limbs ((((sgn n0 m0).fmod (sgn n1 m1))).natAbs)) ∧ (∀ ad, A105 = some ad → w.heap.size ≤ ad.block)), V.E (.int .i64 0), V.Nb W89 35 #[.bool false, .slice none 0 0], V.Nb W89 35 #[.bool false, .slice none 0 0]] [7, 8] (V.i h (V.i h' (V.i hb (V.i b_g85 (V.i b_g86 b_g87))))) ?_ ?_
 ·refine V.ac ?_ (V.ac ?_ (V.ac ?_ (V.ac ?_ (V.ac ?_ (V.ac ?_ (V.ac ?_ (V.ac ?_ (V.ac ?_ V.an))))))))
  ·exact V.z1 rfl fun h => V.xl (V.eo h 2 s2) (V.lr h.g.1.2.2.2.1 Tryz.underlying35)
  ·exact V.z1 rfl fun h => V.xl (V.eo h 3 s3) (V.lr h.g.1.2.2.2.2.1 Tryz.underlying35)
  ·refine V.s2 rfl fun f W h => ?_
   refine V.call en89 (V.args2 (V.ed h 0 9 rfl) (V.ed h 1 10 rfl)) (Calls.mono (Div_nn nr mr h.g.1.1 h.g.1.2.1 h0 h1 hm hv hz) ?_)
   rintro e W' ⟨A91, c92, A93, c94, rfl, k95, k97, p96, p98, hb⟩
   exact ⟨_, rfl, ⟨A91, c92, A93, c94, rfl, k95, k97, (fun ad e => Nat.le_trans h.g.1.2.2.1.size (p96 ad e)), (fun ad e => Nat.le_trans h.g.1.2.2.1.size (p98 ad e))⟩, hb⟩
  ·refine V.s2 rfl fun f W h => ?_
   obtain ⟨A91, c92, A93, c94, a11, k2_0, k2_1, p2_0, p2_1⟩ := V.dp h 2 11 (by kernel_rfl) rfl
   exact V.v2 (.tuple #[.agg #[.bool nr, Vs A91 mr c92], .agg #[.bool (decide (((sgn n0 m0).fmod (sgn n1 m1)) < 0)), .slice A93 (Lb.limbs ((((sgn n0 m0).fmod (sgn n1 m1))).natAbs)).length c94], .int .i64 0]) (V.xm (V.ev_tmp rfl a11)) ⟨A91, c92, A93, c94, rfl, k2_0, k2_1, p2_0, p2_1⟩
  ·refine V.s2 rfl fun f W h => ?_
   obtain ⟨A99, c100, A101, c102, a8, k3_0, k3_1, p3_0, p3_1⟩ := V.dp h 3 8 (by kernel_rfl) rfl
   exact V.v2 (.agg #[.bool nr, Vs A99 mr c100]) (V.xe (V.ev_tmp rfl a8)) ⟨A99, c100, rfl, k3_0, p3_0⟩
  ·refine V.s2 rfl fun f W h => ?_
   obtain ⟨A99, c100, A101, c102, a8, k3_0, k3_1, p3_0, p3_1⟩ := V.dp h 3 8 (by kernel_rfl) rfl
   exact V.v2 (.agg #[.bool (decide (((sgn n0 m0).fmod (sgn n1 m1)) < 0)), .slice A101 (Lb.limbs ((((sgn n0 m0).fmod (sgn n1 m1))).natAbs)).length c102]) (V.xe (V.ev_tmp rfl a8)) ⟨A101, c102, rfl, k3_1, p3_1⟩
  ·refine V.s1 rfl fun f W h => ?_
   obtain ⟨A99, c100, A101, c102, a8, k3_0, k3_1, p3_0, p3_1⟩ := V.dp h 3 8 (by kernel_rfl) rfl
   exact V.xe (V.ev_tmp rfl a8)
  ·exact V.sn rfl fun f W h => V.x_alloc
  ·exact V.sn rfl fun f W h => V.x_alloc
 have o_g85 := b_g85.lt
 have o_g86 := b_g86.lt
 have o_g87 := b_g87.lt
 have o_bel := hb.size
 intro f109 W110 hE111
 clear h h' hb b_g85 b_g86 b_g87
 obtain ⟨⟨h, h', hb, b_g85, b_g86, b_g87⟩, hsz⟩ := hE111.g
 obtain ⟨s0, s1, s4⟩ := V.e3 hE111 s0 s1 s4
 obtain ⟨A103, c104, s12, r112, n113⟩ := V.eq hE111 4 12 rfl
 obtain ⟨A105, c106, s13, r114, n115⟩ := V.eq hE111 5 13 rfl
 have s14 := V.es hE111 6 14 rfl
 obtain ⟨g107, s5, b_g107, l_g107⟩ := V.eq hE111 7 5 rfl
 have m_g107 : w.heap.size ≤ g107 := Nat.le_trans o_bel l_g107
 have q_g85_g107 : g85 ≠ g107 := by omega
 have q_g86_g107 : g86 ≠ g107 := by omega
 have q_g87_g107 : g87 ≠ g107 := by omega
 obtain ⟨g108, s6, b_g108, l_g108⟩ := V.eq hE111 8 6 rfl
 have m_g108 : w.heap.size ≤ g108 := Nat.le_trans o_bel l_g108
 have q_g85_g108 : g85 ≠ g108 := by omega
 have q_g86_g108 : g86 ≠ g108 := by omega
 have q_g87_g108 : g87 ≠ g108 := by omega
 have q_g107_g108 : g107 ≠ g108 := V.ep hE111 7 8 5 6 s5 s6
 clear hE111 hsz
 clear o_bel o_g85 o_g86 o_g87
 refine V.t_st (k := 9) rfl (V.x_store (V.ev_tmp rfl s5) (V.ev_tmp rfl s12) (V.st_row b_g107)) b_g107 fun W116 hs b' => ?_
 replace h := hs.r16 h
 replace h' := hs.r16 h'
 replace hb := hs.bel hb m_g107
 replace b_g85 := hs.blk b_g85 q_g85_g107
 replace b_g86 := hs.blk b_g86 q_g86_g107
 replace b_g87 := hs.blk b_g87 q_g87_g107
 replace r112 := hs.r16 r112
 replace r114 := hs.r16 r114
 replace b_g108 := hs.blk b_g108 (Ne.symm q_g107_g108)
 replace b_g107 := b'
 clear hs b'
 refine V.t_st (k := 10) rfl (V.x_store (V.ev_tmp rfl s6) (V.ev_tmp rfl s13) (V.st_row b_g108)) b_g108 fun W117 hs b' => ?_
 replace h := hs.r16 h
 replace h' := hs.r16 h'
 replace hb := hs.bel hb m_g108
 replace b_g85 := hs.blk b_g85 q_g85_g108
 replace b_g86 := hs.blk b_g86 q_g86_g108
 replace b_g87 := hs.blk b_g87 q_g87_g108
 replace r112 := hs.r16 r112
 replace r114 := hs.r16 r114
 replace b_g107 := hs.blk b_g107 q_g107_g108
 replace b_g108 := b'
 clear hs b'
 refine V.t_val (k := 11) (v := .int .i64 0) (t := 7) rfl rfl rfl (by kernel_rfl) trivial (V.xs (V.ev_tmp rfl s14)) ?_
 intro f118 e119 u120
 replace s0 : f118 0 = .agg #[.bool n0, Vs A m0 c] := (u120 0 (by decide)).trans s0
 replace s1 : f118 1 = .agg #[.bool n1, Vs A' m1 c'] := (u120 1 (by decide)).trans s1
 replace s4 : f118 4 = Vp g87 0 := (u120 4 (by decide)).trans s4
 replace s12 : f118 12 = .agg #[.bool nr, Vs A103 mr c104] := (u120 12 (by decide)).trans s12
 replace s13 : f118 13 = .agg #[.bool (decide (((sgn n0 m0).fmod (sgn n1 m1)) < 0)), .slice A105 (Lb.limbs ((((sgn n0 m0).fmod (sgn n1 m1))).natAbs)).length c106] := (u120 13 (by decide)).trans s13
 replace s14 : f118 14 = .int .i64 0 := (u120 14 (by decide)).trans s14
 replace s5 : f118 5 = Vp g107 0 := (u120 5 (by decide)).trans s5
 replace s6 : f118 6 = Vp g108 0 := (u120 6 (by decide)).trans s6
 have s7 := e119
 clear u120
 refine V.t_done rfl (V.nx (V.seq ?_))
 clear b_g85 b_g86 r114 b_g108
 refine V.reg 1 [V.E (.agg #[.bool nr, Vs A103 mr c104])] [] (V.i h (V.i h' (V.i hb (V.i b_g87 (V.i r112 b_g107))))) ?_ ?_
 ·refine V.ac ?_ V.an
  ·exact V.z1 rfl fun h => V.xl (V.eo h 5 s5) (V.lr h.g.1.2.2.2.2.2 Tryz.underlying35)
 intro f121 W122 hE123
 clear h h' hb b_g87 r112 b_g107
 obtain ⟨⟨h, h', hb, b_g87, r112, b_g107⟩, hsz⟩ := hE123.g
 obtain ⟨s0, s1, s4⟩ := V.e3 hE123 s0 s1 s4
 have s15 := V.es hE123 0 15 rfl
 clear hE123 hsz
 refine V.t_st (k := 1) rfl (V.x_store (V.ev_tmp rfl s4) (V.ev_tmp rfl s15) (V.st_row b_g87)) b_g87 fun W124 hs b' => ?_
 replace h := hs.r16 h
 replace h' := hs.r16 h'
 replace hb := hs.bel hb m_g87
 replace r112 := hs.r16 r112
 replace b_g107 := hs.blk b_g107 (Ne.symm q_g87_g107)
 replace b_g87 := b'
 clear hs b'
 refine V.t_done rfl (V.nx (V.ret ?_))
 refine V.leave_any (.inl rfl) (V.res_cell rfl rfl s4 (V.lr b_g87 Tryz.underlying35 rfl (by kernel_rfl))) ?_
 exact ⟨A103, c104, rfl, r112, n113, hb⟩
end Go.Proofs.YtjbcalbbhomkjaaGreat
