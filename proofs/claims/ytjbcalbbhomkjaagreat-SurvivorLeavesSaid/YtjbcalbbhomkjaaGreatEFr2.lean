import Derived.Test.YtjbcalbbhomkjaaGreatEFr1
import Derived.Test.YtjbcalbbhomkjaaGreatEClone
set_option maxRecDepth 20000
set_option maxHeartbeats 2000000
namespace Go.Proofs.YtjbcalbbhomkjaaGreat
open Go.RowKit
attribute [local irreducible] RI.frame RI.act RI.Ob RI.Tail RI.out V.Wp V.Fn Oper.wp
theorem en48 : En 48 := en_ Tryz.func48
theorem en50 : En 50 := en_ Tryz.func50
theorem en56 : En 56 := en_ Tryz.func56
theorem en59 : En 59 := en_ Tryz.func59
theorem en61 : En 61 := en_ Tryz.func61
theorem en94 : En 94 := en_ Tryz.func94
theorem negated_nn {A : Option Addr} {c : Nat} {neg : Bool} {m : Nat} {w : World} (nr : Bool) (h : R16 w A (Lb.limbs m).length c (Lb.limbs m)) (hl : (Lb.limbs m).length ≤ 1024) (hn : (!neg && decide (0 < ((Lb.limbs m).length : Int))) = nr) :
    Calls Tryz.prog 49 #[.agg #[.bool neg, Vs A m c]] w (RetN w nr m) := by
 refine V.nt Tryz.func49 rfl rfl fun f0 hf => ?_
 have s0 : f0 0 = .agg #[.bool neg, Vs A m c] := hf 0 (by simp)
 clear hf
 have hb := Below.refl w.heap.size w
 refine V.seq ?_
 refine V.reg 2 [V.Nb w 35 #[.bool neg, Vs A m c], V.Nb w 35 #[.bool false, .slice none 0 0]] [0, 1] (V.i h hb) ?_ ?_
 ·refine V.a2 ?_ ?_
  ·exact V.sn rfl fun f W h => V.x_box (V.eo h 0 s0)
  ·exact V.sn rfl fun f W h => V.x_alloc
 have o_bel := hb.size
 intro f3 W4 e5
 clear h hb
 obtain ⟨⟨h, hb⟩, z_⟩ := e5.g
 replace s0 := V.e1 e5 s0
 obtain ⟨g1, s1, bg1, lg1⟩ := V.eq e5 0 1 rfl
 obtain ⟨g2, s2, bg2, lg2⟩ := V.eq e5 1 2 rfl
 have mg2 := Nat.le_trans o_bel lg2
 have q1_2 : g1 ≠ g2 := V.ep e5 0 1 1 2 s1 s2
 clear e5 z_
 clear o_bel
 refine V.t_done rfl (V.nx (V.seq ?_))
 refine V.reg 13 [V.E (Vp g1 0), V.E (.bool neg), V.E (.bool (!neg)), V.E (.bool (!neg)), (V.Gd (!neg) (V.E (Vp g1 1))), (V.Gd (!neg) (V.E (Vs A m c))), (V.Gd (!neg) (V.E (.int .i64 ((Lb.limbs m).length : Int)))), (V.Gd (!neg) (V.E (.bool (decide (0 < ((Lb.limbs m).length : Int)))))), V.E (.bool ((!neg) && (decide (0 < ((Lb.limbs m).length : Int))))), V.E (Vp g1 1), V.E (Vs A m c), (fun v W => ∃ A6 : Option Addr, ∃ c7 : Nat, v = Vs A6 m c7 ∧ R16 W A6 ((Lb.limbs m).length) c7 (Lb.limbs m) ∧ (∀ ad, A6 = some ad → w.heap.size ≤ ad.block)), (fun v W => ∃ A10 : Option Addr, ∃ c11 : Nat, v = .agg #[.bool ((!neg) && (decide (0 < ((Lb.limbs m).length : Int)))), Vs A10 m c11] ∧ R16 W A10 ((Lb.limbs m).length) c11 (Lb.limbs m) ∧ (∀ ad, A10 = some ad → w.heap.size ≤ ad.block))] [] (V.i h (V.i hb (V.i bg1 bg2))) ?_ ?_
 ·refine V.b8 ?_ ?_ ?_ ?_ ?_ ?_ ?_ ?_ (V.a5 ?_ ?_ ?_ ?_ ?_)
  ·exact V.z1 rfl fun h => V.xa (V.eo h 1 s1)
  ·exact V.z1 rfl fun h => V.xl (V.ed h 0 3 rfl) (V.lo h.g.1.2.2.1 rfl)
  ·exact V.z1 rfl fun h => V.x_un (V.ed h 1 4 rfl)
  ·exact V.me rfl 2 5 rfl
  ·exact V.gt 3 6 rfl rfl fun hp f W h => V.v1 (V.xa (V.eo h 1 s1))
  ·exact V.gt 3 6 rfl rfl fun hp f W h => V.v1 (V.xl (V.eg h 4 7 rfl hp) (V.lo h.g.1.2.2.1 rfl))
  ·exact V.gt 3 6 rfl rfl fun hp f W h => V.v1 (V.x_len (V.eg h 5 8 rfl hp))
  ·exact V.gt 3 6 rfl rfl fun hp f W h => V.v1 (V.xb (V.eg h 6 9 rfl hp) rfl)
  ·refine V.s1 rfl fun f W h => ?_
   have d10 := V.dp h 7 10 (by kernel_rfl) rfl
   exact V.x_and (V.ed h 3 6 rfl) (fun e => V.ev_tmp rfl (V.gd_on d10 e)) rfl
  ·exact V.z1 rfl fun h => V.xa (V.eo h 1 s1)
  ·exact V.z1 rfl fun h => V.xl (V.ed h 9 12 rfl) (V.lo h.g.1.2.2.1 rfl)
  ·refine V.s2 rfl fun f W h => ?_
   refine V.call en59 (V.args1 (V.ed h 10 13 rfl)) (Calls.mono (clone16_any _ _ _ _ _ h.g.1.1 (by have := hl; omega)) ?_)
   rintro e W' ⟨A6, c7, rfl, k8, p9, hb⟩
   exact ⟨_, rfl, ⟨A6, c7, rfl, k8, (fun ad e => Nat.le_trans h.g.1.2.1.size (p9 ad e))⟩, hb⟩
  ·refine V.s2 rfl fun f W h => ?_
   obtain ⟨A6, c7, a14, k11_0, p11_0⟩ := V.dp h 11 14 (by kernel_rfl) rfl
   exact V.v2 (.agg #[.bool ((!neg) && (decide (0 < ((Lb.limbs m).length : Int)))), Vs A6 m c7]) (V.b2 (V.ed h 8 11 rfl) (V.ev_tmp rfl a14)) ⟨A6, c7, rfl, k11_0, p11_0⟩
 intro f12 W13 e14
 clear h hb bg1 bg2
 obtain ⟨⟨h, hb, bg1, bg2⟩, z_⟩ := e14.g
 obtain ⟨s0, s2⟩ := V.e2 e14 s0 s2
 obtain ⟨A10, c11, s15, r15, n16⟩ := V.eq e14 12 15 rfl
 clear e14 z_
 refine V.tsr (k := 13) rfl s2 s15 bg2 fun W17 hs b' => ?_
 replace h := hs.r16 h
 replace hb := hs.bel hb mg2
 replace bg1 := hs.blk bg1 q1_2
 replace r15 := hs.r16 r15
 replace bg2 := b'
 clear hs b'
 refine V.t_done rfl (V.nx (V.ret ?_))
 refine V.leave_any (.inl rfl) (V.res_cell rfl rfl s2 (V.lr bg2 Tryz.underlying35 rfl (by kernel_rfl))) ?_
 exact ⟨A10, c11, by rw [← hn], r15, n16, hb⟩
theorem fits_raw {A A' : Option Addr} {n n' c c' : Nat} {n0 n1 : Bool} {w : World} (b : Bool) (hb' : (decide ((n : Int) ≤ 256) && decide ((n' : Int) ≤ 256)) = b) :
    Calls Tryz.prog 61 #[.agg #[.bool n0, .slice A n c, .bool n1, .slice A' n' c']] w fun e w' => e = .returned (.bool b) ∧ Below w.heap.size w w' := by
 refine V.nt Tryz.func61 rfl rfl fun f0 hf => ?_
 have s0 : f0 0 = .agg #[.bool n0, .slice A n c, .bool n1, .slice A' n' c'] := hf 0 (by simp)
 clear hf
 have hb := Below.refl w.heap.size w
 refine V.seq ?_
 refine V.reg 2 [V.Nb w 82 #[.bool n0, .slice A n c, .bool n1, .slice A' n' c'], V.E (.bool false)] [0] hb ?_ ?_
 ·refine V.a2 ?_ ?_
  ·exact V.sn rfl fun f W h => V.x_box (V.eo h 0 s0)
  ·exact V.z1 rfl fun h => V.xs rfl
 have o_bel := hb.size
 intro f19 W20 e21
 clear hb
 obtain ⟨hb, z_⟩ := e21.g
 replace s0 := V.e1 e21 s0
 obtain ⟨g18, s1, bg18, lg18⟩ := V.eq e21 0 1 rfl
 have s2 := V.es e21 1 2 rfl
 clear e21 z_
 clear o_bel
 refine V.t_done rfl (V.nx (V.seq ?_))
 refine V.reg 15 [V.E (Vp g18 0), V.E (Vp g18 0), V.E (Vp g18 1), V.E (.slice A n c), V.E (.int .i64 (n : Int)), V.E (.bool (decide ((n : Int) ≤ 256))), V.E (.bool (decide ((n : Int) ≤ 256))), (V.Gd (decide ((n : Int) ≤ 256)) (V.E (Vp g18 0))), (V.Gd (decide ((n : Int) ≤ 256)) (V.E (Vp g18 2))), (V.Gd (decide ((n : Int) ≤ 256)) (V.E (Vp g18 3))), (V.Gd (decide ((n : Int) ≤ 256)) (V.E (.slice A' n' c'))), (V.Gd (decide ((n : Int) ≤ 256)) (V.E (.int .i64 (n' : Int)))), (V.Gd (decide ((n : Int) ≤ 256)) (V.E (.bool (decide ((n' : Int) ≤ 256))))), V.E (.bool ((decide ((n : Int) ≤ 256)) && (decide ((n' : Int) ≤ 256)))), V.E (.bool ((decide ((n : Int) ≤ 256)) && (decide ((n' : Int) ≤ 256))))] [] (V.i hb bg18) ?_ ?_
 ·refine V.b8 ?_ ?_ ?_ ?_ ?_ ?_ ?_ ?_ (V.a7 ?_ ?_ ?_ ?_ ?_ ?_ ?_)
  ·exact V.z1 rfl fun h => V.xa (V.eo h 1 s1)
  ·exact V.z1 rfl fun h => V.xa (V.ed h 0 3 rfl)
  ·exact V.z1 rfl fun h => V.xa (V.ed h 1 4 rfl)
  ·exact V.z1 rfl fun h => V.xl (V.ed h 2 5 rfl) (V.lo h.g.1.2 rfl)
  ·exact V.z1 rfl fun h => V.x_len (V.ed h 3 6 rfl)
  ·exact V.z1 rfl fun h => V.xb (V.ed h 4 7 rfl) rfl
  ·exact V.me rfl 5 8 rfl
  ·exact V.gt 6 9 rfl rfl fun hp f W h => V.v1 (V.xa (V.eo h 1 s1))
  ·exact V.gt 6 9 rfl rfl fun hp f W h => V.v1 (V.xa (V.eg h 7 10 rfl hp))
  ·exact V.gt 6 9 rfl rfl fun hp f W h => V.v1 (V.xa (V.eg h 8 11 rfl hp))
  ·exact V.gt 6 9 rfl rfl fun hp f W h => V.v1 (V.xl (V.eg h 9 12 rfl hp) (V.lo h.g.1.2 rfl))
  ·exact V.gt 6 9 rfl rfl fun hp f W h => V.v1 (V.x_len (V.eg h 10 13 rfl hp))
  ·exact V.gt 6 9 rfl rfl fun hp f W h => V.v1 (V.xb (V.eg h 11 14 rfl hp) rfl)
  ·refine V.s1 rfl fun f W h => ?_
   have d15 := V.dp h 12 15 (by kernel_rfl) rfl
   exact V.x_and (V.ed h 6 9 rfl) (fun e => V.ev_tmp rfl (V.gd_on d15 e)) rfl
  ·exact V.se rfl 13 16 rfl
 intro f22 W23 e24
 clear hb bg18
 obtain ⟨⟨hb, bg18⟩, z_⟩ := e24.g
 replace s0 := V.e1 e24 s0
 have s2 := V.es e24 14 2 rfl
 clear e24 z_
 refine V.t_done rfl (V.nx (V.ret ?_))
 refine V.leave_any (.inl rfl) (V.res_tmp rfl rfl s2) ?_
 exact ⟨by rw [← hb'], hb⟩
theorem told_ok {A A' : Option Addr} {n n' c c' : Nat} {n0 n1 : Bool} {w : World} (hb' : (decide ((n : Int) ≤ 256) && decide ((n' : Int) ≤ 256)) = true) :
    Calls Tryz.prog 51 #[.agg #[.bool n0, .slice A n c, .bool n1, .slice A' n' c']] w fun e w' => e = .returned (.tuple #[.agg #[.bool n0, .slice A n c, .bool n1, .slice A' n' c'], .int .i64 0]) ∧ Below w.heap.size w w' := by
 refine V.nt Tryz.func51 rfl rfl fun f0 hf => ?_
 have s0 : f0 0 = .agg #[.bool n0, .slice A n c, .bool n1, .slice A' n' c'] := hf 0 (by simp)
 clear hf
 have hb := Below.refl w.heap.size w
 refine V.seq ?_
 refine V.reg 3 [V.Nb w 82 #[.bool n0, .slice A n c, .bool n1, .slice A' n' c'], V.Nb w 39 #[.bool false, .slice none 0 0, .bool false, .slice none 0 0], V.E (.int .i64 0)] [0, 1] hb ?_ ?_
 ·refine V.a3 ?_ ?_ ?_
  ·exact V.sn rfl fun f W h => V.x_box (V.eo h 0 s0)
  ·exact V.sn rfl fun f W h => V.x_alloc
  ·exact V.z1 rfl fun h => V.xs rfl
 have o_bel := hb.size
 intro f27 W28 e29
 clear hb
 obtain ⟨hb, z_⟩ := e29.g
 replace s0 := V.e1 e29 s0
 obtain ⟨g25, s1, bg25, lg25⟩ := V.eq e29 0 1 rfl
 obtain ⟨g26, s2, bg26, lg26⟩ := V.eq e29 1 2 rfl
 have mg26 := Nat.le_trans o_bel lg26
 have q25_26 : g25 ≠ g26 := V.ep e29 0 1 1 2 s1 s2
 have s3 := V.es e29 2 3 rfl
 clear e29 z_
 clear o_bel
 refine V.t_done rfl (V.nx (V.seq (V.seq ?_)))
 refine V.reg 3 [V.E (.agg #[.bool n0, .slice A n c, .bool n1, .slice A' n' c']), V.E (.bool true), V.E (.bool false)] [] (V.i hb (V.i bg25 bg26)) ?_ ?_
 ·refine V.a3 ?_ ?_ ?_
  ·exact V.z1 rfl fun h => V.xl (V.eo h 1 s1) (V.lr h.g.1.2.1 Tryz.underlying82)
  ·refine V.s2 rfl fun f W h => ?_
   refine V.call en61 (V.args1 (V.ed h 0 4 rfl)) (Calls.mono (fits_raw true hb') ?_)
   rintro e W' ⟨rfl, hb⟩
   exact ⟨_, rfl, rfl, hb⟩
  ·exact V.z1 rfl fun h => V.x_un (V.ed h 1 5 rfl)
 intro f30 W31 e32
 clear hb bg25 bg26
 obtain ⟨⟨hb, bg25, bg26⟩, z_⟩ := e32.g
 obtain ⟨s0, s1, s2, s3⟩ := V.e4 e32 s0 s1 s2 s3
 have s6 := V.es e32 2 6 rfl
 clear e32 z_
 refine V.t_done rfl (V.nx ?_)
 refine V.cond_f (V.ev_tmp rfl s6) ?_
 refine V.skip ?_
 refine V.nx (V.seq ?_)
 refine V.reg 2 [V.E (Vp g25 0), V.E (.agg #[.bool n0, .slice A n c, .bool n1, .slice A' n' c'])] [] (V.i hb (V.i bg25 bg26)) ?_ ?_
 ·refine V.a2 ?_ ?_
  ·exact V.z1 rfl fun h => V.xa (V.eo h 1 s1)
  ·exact V.z1 rfl fun h => V.xl (V.ed h 0 8 rfl) (V.lr h.g.1.2.1 Tryz.underlying39)
 intro f33 W34 e35
 clear hb bg25 bg26
 obtain ⟨⟨hb, bg25, bg26⟩, z_⟩ := e35.g
 obtain ⟨s0, s2, s3⟩ := V.e3 e35 s0 s2 s3
 have s9 := V.es e35 1 9 rfl
 clear e35 z_
 refine V.tsr (k := 2) rfl s2 s9 bg26 fun W36 hs b' => ?_
 replace hb := hs.bel hb mg26
 replace bg25 := hs.blk bg25 q25_26
 replace bg26 := b'
 clear hs b'
 refine V.t_val (k := 3) (v := .int .i64 0) (t := 3) rfl rfl rfl (by kernel_rfl) trivial (V.xs rfl) ?_
 intro f37 e38 u39
 replace s0 : f37 0 = .agg #[.bool n0, .slice A n c, .bool n1, .slice A' n' c'] := (u39 0 (by decide)).trans s0
 replace s2 : f37 2 = Vp g26 0 := (u39 2 (by decide)).trans s2
 replace s9 : f37 9 = .agg #[.bool n0, .slice A n c, .bool n1, .slice A' n' c'] := (u39 9 (by decide)).trans s9
 have s3 := e38
 clear u39
 refine V.t_done rfl (V.nx (V.ret ?_))
 refine V.leave_any (.inl rfl) (V.res_cellTmp rfl rfl rfl s2 s3 (V.lr bg26 Tryz.underlying39 rfl (by kernel_rfl))) ?_
 exact ⟨rfl, hb⟩
theorem times_q {A A' B B' : Option Addr} {c c' e e' : Nat} {q r : Rat} {w : World} {k l : Nat} (h1 : R16 w A (Lb.limbs (Q.m q)).length c (Lb.limbs (Q.m q))) (h2 : R16 w A' (Lb.limbs q.den).length c' (Lb.limbs q.den)) (h3 : R16 w B (Lb.limbs (Q.m r)).length e (Lb.limbs (Q.m r))) (h4 : R16 w B' (Lb.limbs r.den).length e' (Lb.limbs r.den)) (hq : Q.Sz k q) (hr : Q.Sz l r) (hk : k + l ≤ 1024) :
    Calls Tryz.prog 64 #[.agg #[.bool (Q.neg q), Vs A (Q.m q) c, .bool false, Vs A' q.den c'], .agg #[.bool (Q.neg r), Vs B (Q.m r) e, .bool false, Vs B' r.den e']] w (RetF w (Q.neg (q * r)) (Q.m (q * r)) (q * r).den) := by
 have hkl1 : k ≤ max k l := Nat.le_max_left _ _
 have hkl2 : l ≤ max k l := Nat.le_max_right _ _
 have hkm : max k l ≤ 1024 := by omega
 have k1 : Nv (Q.neg q) (Q.m q) := nv_mk hq.n (by omega) Q.neg_zero
 have k2 : Nv false q.den := nv_mk hq.d (by omega) (fun _ => rfl)
 have k3 : Nv (Q.neg r) (Q.m r) := nv_mk hr.n (by omega) Q.neg_zero
 have k4 : Nv false r.den := nv_mk hr.d (by omega) (fun _ => rfl)
 have kg : Nv false (Nat.gcd (Q.m q) r.den) := nv_mk (Q.gcd_lt (hq.mono hkl1).n (hr.mono hkl2).d) hkm (fun _ => rfl)
 have kh : Nv false (Nat.gcd (Q.m r) q.den) := nv_mk (Q.gcd_lt (hr.mono hkl2).n (hq.mono hkl1).d) hkm (fun _ => rfl)
 have k5 : Nv (Q.neg q) (Q.m q / (Nat.gcd (Q.m q) r.den)) := nv_mk (Q.div_lt hq.n) (by omega) (Q.sgn_zero (Nat.gcd_dvd_left _ _) Q.neg_zero)
 have k6 : Nv (Q.neg r) (Q.m r / (Nat.gcd (Q.m r) q.den)) := nv_mk (Q.div_lt hr.n) (by omega) (Q.sgn_zero (Nat.gcd_dvd_left _ _) Q.neg_zero)
 have k7 : Nv false (q.den / (Nat.gcd (Q.m r) q.den)) := nv_mk (Q.div_lt hq.d) (by omega) (fun _ => rfl)
 have k8 : Nv false (r.den / (Nat.gcd (Q.m q) r.den)) := nv_mk (Q.div_lt hr.d) (by omega) (fun _ => rfl)
 have k9 : Nv (Q.neg (q * r)) (Q.m (q * r)) := nv_mk (Q.Sz.mul hq hr).n hk Q.neg_zero
 have k10 : Nv false (q * r).den := nv_mk (Q.Sz.mul hq hr).d hk (fun _ => rfl)
 refine V.nt Tryz.func64 rfl rfl fun f0 hf => ?_
 have s0 : f0 0 = .agg #[.bool (Q.neg q), Vs A (Q.m q) c, .bool false, Vs A' q.den c'] := hf 0 (by simp)
 have s1 : f0 1 = .agg #[.bool (Q.neg r), Vs B (Q.m r) e, .bool false, Vs B' r.den e'] := hf 1 (by simp)
 clear hf
 have hb := Below.refl w.heap.size w
 refine V.seq ?_
 refine V.reg 3 [V.Nb w 82 #[.bool (Q.neg q), Vs A (Q.m q) c, .bool false, Vs A' q.den c'], V.Nb w 82 #[.bool (Q.neg r), Vs B (Q.m r) e, .bool false, Vs B' r.den e'], V.Nb w 82 #[.bool false, .slice none 0 0, .bool false, .slice none 0 0]] [0, 1, 2] (V.i h1 (V.i h2 (V.i h3 (V.i h4 hb)))) ?_ ?_
 ·refine V.a3 ?_ ?_ ?_
  ·exact V.sn rfl fun f W h => V.x_box (V.eo h 0 s0)
  ·exact V.sn rfl fun f W h => V.x_box (V.eo h 1 s1)
  ·exact V.sn rfl fun f W h => V.x_alloc
 have o_bel := hb.size
 intro f58 W59 e60
 clear h1 h2 h3 h4 hb
 obtain ⟨⟨h1, h2, h3, h4, hb⟩, z_⟩ := e60.g
 obtain ⟨s0, s1⟩ := V.e2 e60 s0 s1
 obtain ⟨g55, s2, bg55, lg55⟩ := V.eq e60 0 2 rfl
 obtain ⟨g56, s3, bg56, lg56⟩ := V.eq e60 1 3 rfl
 obtain ⟨g57, s4, bg57, lg57⟩ := V.eq e60 2 4 rfl
 have mg57 := Nat.le_trans o_bel lg57
 have q55_57 : g55 ≠ g57 := V.ep e60 0 2 2 4 s2 s4
 have q56_57 : g56 ≠ g57 := V.ep e60 1 2 3 4 s3 s4
 clear e60 z_
 clear o_bel
 refine V.t_done rfl (V.nx (V.seq ?_))
 refine V.reg 16 [V.E (Vp g55 0), V.E (Vp g55 0), V.E (.agg #[.bool (Q.neg q), Vs A (Q.m q) c]), V.E (Vp g56 0), V.E (Vp g56 2), V.E (.agg #[.bool false, Vs B' r.den e']), (fun v W => ∃ A61 : Option Addr, ∃ c62 : Nat, v = .agg #[.bool false, Vs A61 (Nat.gcd (Q.m q) r.den) c62] ∧ R16 W A61 ((Lb.limbs (Nat.gcd (Q.m q) r.den)).length) c62 (Lb.limbs (Nat.gcd (Q.m q) r.den)) ∧ (∀ ad, A61 = some ad → w.heap.size ≤ ad.block)), V.E (Vp g56 0), V.E (Vp g56 0), V.E (.agg #[.bool (Q.neg r), Vs B (Q.m r) e]), V.E (Vp g55 0), V.E (Vp g55 2), V.E (.agg #[.bool false, Vs A' q.den c']), (fun v W => ∃ A65 : Option Addr, ∃ c66 : Nat, v = .agg #[.bool false, Vs A65 (Nat.gcd (Q.m r) q.den) c66] ∧ R16 W A65 ((Lb.limbs (Nat.gcd (Q.m r) q.den)).length) c66 (Lb.limbs (Nat.gcd (Q.m r) q.den)) ∧ (∀ ad, A65 = some ad → w.heap.size ≤ ad.block)), V.Nb W59 35 #[.bool false, .slice none 0 0], V.Nb W59 35 #[.bool false, .slice none 0 0]] [14, 15] (V.i h1 (V.i h2 (V.i h3 (V.i h4 (V.i hb (V.i bg55 (V.i bg56 bg57))))))) ?_ ?_
 ·refine V.b8 ?_ ?_ ?_ ?_ ?_ ?_ ?_ ?_ (V.a8 ?_ ?_ ?_ ?_ ?_ ?_ ?_ ?_)
  ·exact V.z1 rfl fun h => V.xa (V.eo h 2 s2)
  ·exact V.z1 rfl fun h => V.xa (V.ed h 0 7 rfl)
  ·exact V.z1 rfl fun h => V.xl (V.ed h 1 8 rfl) (V.ld_mid (xs := [.bool (Q.neg q), Vs A (Q.m q) c]) h.g.1.2.2.2.2.2.1 (by intro j hj; match j, hj with | 0, _ => rfl | 1, _ => rfl) Tryz.underlying35)
  ·exact V.z1 rfl fun h => V.xa (V.eo h 3 s3)
  ·exact V.z1 rfl fun h => V.xa (V.ed h 3 10 rfl)
  ·exact V.z1 rfl fun h => V.xl (V.ed h 4 11 rfl) (V.ld_mid (xs := [.bool false, Vs B' r.den e']) h.g.1.2.2.2.2.2.2.1 (by intro j hj; match j, hj with | 0, _ => rfl | 1, _ => rfl) Tryz.underlying35)
  ·refine V.s2 rfl fun f W h => ?_
   refine V.call en48 (V.args2 (V.ed h 2 9 rfl) (V.ed h 5 12 rfl)) (Calls.mono ((common_nn h.g.1.1 h.g.1.2.2.2.1 k1 k4)) ?_)
   rintro e W' ⟨A61, c62, rfl, k63, p64, hb⟩
   exact ⟨_, rfl, ⟨A61, c62, rfl, k63, (fun ad e => Nat.le_trans h.g.1.2.2.2.2.1.size (p64 ad e))⟩, hb⟩
  ·exact V.z1 rfl fun h => V.xa (V.eo h 3 s3)
  ·exact V.z1 rfl fun h => V.xa (V.ed h 7 14 rfl)
  ·exact V.z1 rfl fun h => V.xl (V.ed h 8 15 rfl) (V.ld_mid (xs := [.bool (Q.neg r), Vs B (Q.m r) e]) h.g.1.2.2.2.2.2.2.1 (by intro j hj; match j, hj with | 0, _ => rfl | 1, _ => rfl) Tryz.underlying35)
  ·exact V.z1 rfl fun h => V.xa (V.eo h 2 s2)
  ·exact V.z1 rfl fun h => V.xa (V.ed h 10 17 rfl)
  ·exact V.z1 rfl fun h => V.xl (V.ed h 11 18 rfl) (V.ld_mid (xs := [.bool false, Vs A' q.den c']) h.g.1.2.2.2.2.2.1 (by intro j hj; match j, hj with | 0, _ => rfl | 1, _ => rfl) Tryz.underlying35)
  ·refine V.s2 rfl fun f W h => ?_
   refine V.call en48 (V.args2 (V.ed h 9 16 rfl) (V.ed h 12 19 rfl)) (Calls.mono ((common_nn h.g.1.2.2.1 h.g.1.2.1 k3 k2)) ?_)
   rintro e W' ⟨A65, c66, rfl, k67, p68, hb⟩
   exact ⟨_, rfl, ⟨A65, c66, rfl, k67, (fun ad e => Nat.le_trans h.g.1.2.2.2.2.1.size (p68 ad e))⟩, hb⟩
  ·exact V.sn rfl fun f W h => V.x_alloc
  ·exact V.sn rfl fun f W h => V.x_alloc
 have o_g55 := bg55.lt
 have o_g56 := bg56.lt
 have o_g57 := bg57.lt
 have o_bel := hb.size
 intro f71 W72 e73
 clear h1 h2 h3 h4 hb bg55 bg56 bg57
 obtain ⟨⟨h1, h2, h3, h4, hb, bg55, bg56, bg57⟩, z_⟩ := e73.g
 obtain ⟨s0, s1, s2, s3, s4⟩ := V.e5 e73 s0 s1 s2 s3 s4
 obtain ⟨A61, c62, s13, r74, n75⟩ := V.eq e73 6 13 rfl
 obtain ⟨A65, c66, s20, r76, n77⟩ := V.eq e73 13 20 rfl
 obtain ⟨g69, s5, bg69, lg69⟩ := V.eq e73 14 5 rfl
 have mg69 := Nat.le_trans o_bel lg69
 have q55_69 : g55 ≠ g69 := by omega
 have q56_69 : g56 ≠ g69 := by omega
 have q57_69 : g57 ≠ g69 := by omega
 obtain ⟨g70, s6, bg70, lg70⟩ := V.eq e73 15 6 rfl
 have mg70 := Nat.le_trans o_bel lg70
 have q55_70 : g55 ≠ g70 := by omega
 have q56_70 : g56 ≠ g70 := by omega
 have q57_70 : g57 ≠ g70 := by omega
 have q69_70 : g69 ≠ g70 := V.ep e73 14 15 5 6 s5 s6
 clear e73 z_
 clear o_bel o_g55 o_g56 o_g57
 refine V.tsr (k := 16) rfl s5 s13 bg69 fun W78 hs b' => ?_
 replace h1 := hs.r16 h1
 replace h2 := hs.r16 h2
 replace h3 := hs.r16 h3
 replace h4 := hs.r16 h4
 replace hb := hs.bel hb mg69
 replace bg55 := hs.blk bg55 q55_69
 replace bg56 := hs.blk bg56 q56_69
 replace bg57 := hs.blk bg57 q57_69
 replace r74 := hs.r16 r74
 replace r76 := hs.r16 r76
 replace bg70 := hs.blk bg70 (Ne.symm q69_70)
 replace bg69 := b'
 clear hs b'
 refine V.tsr (k := 17) rfl s6 s20 bg70 fun W79 hs b' => ?_
 replace h1 := hs.r16 h1
 replace h2 := hs.r16 h2
 replace h3 := hs.r16 h3
 replace h4 := hs.r16 h4
 replace hb := hs.bel hb mg70
 replace bg55 := hs.blk bg55 q55_70
 replace bg56 := hs.blk bg56 q56_70
 replace bg57 := hs.blk bg57 q57_70
 replace r74 := hs.r16 r74
 replace r76 := hs.r16 r76
 replace bg69 := hs.blk bg69 q69_70
 replace bg70 := b'
 clear hs b'
 refine V.t_done rfl (V.nx (V.seq ?_))
 refine V.reg 24 [V.E (Vp g55 0), V.E (Vp g55 0), V.E (.agg #[.bool (Q.neg q), Vs A (Q.m q) c]), V.E (.agg #[.bool false, Vs A61 (Nat.gcd (Q.m q) r.den) c62]), (fun v W => ∃ A80 : Option Addr, ∃ c81 : Nat, v = .agg #[.bool (Q.neg q), .slice A80 (Lb.limbs (Q.m q / (Nat.gcd (Q.m q) r.den))).length c81] ∧ R16 W A80 ((Lb.limbs (Q.m q / (Nat.gcd (Q.m q) r.den))).length) c81 (Lb.limbs (Q.m q / (Nat.gcd (Q.m q) r.den))) ∧ (∀ ad, A80 = some ad → w.heap.size ≤ ad.block)), V.E (Vp g56 0), V.E (Vp g56 0), V.E (.agg #[.bool (Q.neg r), Vs B (Q.m r) e]), V.E (.agg #[.bool false, Vs A65 (Nat.gcd (Q.m r) q.den) c66]), (fun v W => ∃ A84 : Option Addr, ∃ c85 : Nat, v = .agg #[.bool (Q.neg r), .slice A84 (Lb.limbs (Q.m r / (Nat.gcd (Q.m r) q.den))).length c85] ∧ R16 W A84 ((Lb.limbs (Q.m r / (Nat.gcd (Q.m r) q.den))).length) c85 (Lb.limbs (Q.m r / (Nat.gcd (Q.m r) q.den))) ∧ (∀ ad, A84 = some ad → w.heap.size ≤ ad.block)), (fun v W => ∃ A88 : Option Addr, ∃ c89 : Nat, v = .agg #[.bool (Q.neg (q * r)), Vs A88 (Q.m (q * r)) c89] ∧ R16 W A88 ((Lb.limbs (Q.m (q * r))).length) c89 (Lb.limbs (Q.m (q * r))) ∧ (∀ ad, A88 = some ad → w.heap.size ≤ ad.block)), V.E (Vp g55 0), V.E (Vp g55 2), V.E (.agg #[.bool false, Vs A' q.den c']), V.E (.agg #[.bool false, Vs A65 (Nat.gcd (Q.m r) q.den) c66]), (fun v W => ∃ A92 : Option Addr, ∃ c93 : Nat, v = .agg #[.bool false, .slice A92 (Lb.limbs (q.den / (Nat.gcd (Q.m r) q.den))).length c93] ∧ R16 W A92 ((Lb.limbs (q.den / (Nat.gcd (Q.m r) q.den))).length) c93 (Lb.limbs (q.den / (Nat.gcd (Q.m r) q.den))) ∧ (∀ ad, A92 = some ad → w.heap.size ≤ ad.block)), V.E (Vp g56 0), V.E (Vp g56 2), V.E (.agg #[.bool false, Vs B' r.den e']), V.E (.agg #[.bool false, Vs A61 (Nat.gcd (Q.m q) r.den) c62]), (fun v W => ∃ A96 : Option Addr, ∃ c97 : Nat, v = .agg #[.bool false, .slice A96 (Lb.limbs (r.den / (Nat.gcd (Q.m q) r.den))).length c97] ∧ R16 W A96 ((Lb.limbs (r.den / (Nat.gcd (Q.m q) r.den))).length) c97 (Lb.limbs (r.den / (Nat.gcd (Q.m q) r.den))) ∧ (∀ ad, A96 = some ad → w.heap.size ≤ ad.block)), (fun v W => ∃ A100 : Option Addr, ∃ c101 : Nat, v = .agg #[.bool false, Vs A100 ((q * r).den) c101] ∧ R16 W A100 ((Lb.limbs ((q * r).den)).length) c101 (Lb.limbs ((q * r).den)) ∧ (∀ ad, A100 = some ad → w.heap.size ≤ ad.block)), (fun v W => ∃ A104 : Option Addr, ∃ c105 : Nat, ∃ A106 : Option Addr, ∃ c107 : Nat, v = .agg #[.bool (Q.neg (q * r)), Vs A104 (Q.m (q * r)) c105, .bool false, Vs A106 ((q * r).den) c107] ∧ R16 W A104 ((Lb.limbs (Q.m (q * r))).length) c105 (Lb.limbs (Q.m (q * r))) ∧ R16 W A106 ((Lb.limbs ((q * r).den)).length) c107 (Lb.limbs ((q * r).den)) ∧ (∀ ad, A104 = some ad → w.heap.size ≤ ad.block) ∧ (∀ ad, A106 = some ad → w.heap.size ≤ ad.block)), (fun v W => ∃ A108 : Option Addr, ∃ c109 : Nat, ∃ A110 : Option Addr, ∃ c111 : Nat, v = .agg #[.bool (Q.neg (q * r)), Vs A108 (Q.m (q * r)) c109, .bool false, Vs A110 ((q * r).den) c111] ∧ R16 W A108 ((Lb.limbs (Q.m (q * r))).length) c109 (Lb.limbs (Q.m (q * r))) ∧ R16 W A110 ((Lb.limbs ((q * r).den)).length) c111 (Lb.limbs ((q * r).den)) ∧ (∀ ad, A108 = some ad → w.heap.size ≤ ad.block) ∧ (∀ ad, A110 = some ad → w.heap.size ≤ ad.block))] [] (V.i h1 (V.i h2 (V.i h3 (V.i h4 (V.i hb (V.i bg55 (V.i bg56 (V.i bg57 (V.i r74 (V.i r76 (V.i bg69 bg70))))))))))) ?_ ?_
 ·refine V.b8 ?_ ?_ ?_ ?_ ?_ ?_ ?_ ?_ (V.b8 ?_ ?_ ?_ ?_ ?_ ?_ ?_ ?_ (V.a8 ?_ ?_ ?_ ?_ ?_ ?_ ?_ ?_))
  ·exact V.z1 rfl fun h => V.xa (V.eo h 2 s2)
  ·exact V.z1 rfl fun h => V.xa (V.ed h 0 21 rfl)
  ·exact V.z1 rfl fun h => V.xl (V.ed h 1 22 rfl) (V.ld_mid (xs := [.bool (Q.neg q), Vs A (Q.m q) c]) h.g.1.2.2.2.2.2.1 (by intro j hj; match j, hj with | 0, _ => rfl | 1, _ => rfl) Tryz.underlying35)
  ·exact V.z1 rfl fun h => V.xl (V.eo h 5 s5) (V.lr h.g.1.2.2.2.2.2.2.2.2.2.2.1 Tryz.underlying35)
  ·refine V.s2 rfl fun f W h => ?_
   refine V.call en50 (V.args2 (V.ed h 2 23 rfl) (V.ed h 3 24 rfl)) (Calls.mono (over_nn (Q.neg q) (Q.m q / (Nat.gcd (Q.m q) r.den)) h.g.1.1 h.g.1.2.2.2.2.2.2.2.2.1 k1 kg (Q.gcd_num_ne q r) (Q.sgn_zero (Nat.gcd_dvd_left _ _) Q.neg_zero) (Q.sgn_div (Nat.gcd_dvd_left _ _))) ?_)
   rintro e W' ⟨A80, c81, rfl, k82, p83, hb⟩
   exact ⟨_, rfl, ⟨A80, c81, rfl, k82, (fun ad e => Nat.le_trans h.g.1.2.2.2.2.1.size (p83 ad e))⟩, hb⟩
  ·exact V.z1 rfl fun h => V.xa (V.eo h 3 s3)
  ·exact V.z1 rfl fun h => V.xa (V.ed h 5 26 rfl)
  ·exact V.z1 rfl fun h => V.xl (V.ed h 6 27 rfl) (V.ld_mid (xs := [.bool (Q.neg r), Vs B (Q.m r) e]) h.g.1.2.2.2.2.2.2.1 (by intro j hj; match j, hj with | 0, _ => rfl | 1, _ => rfl) Tryz.underlying35)
  ·exact V.z1 rfl fun h => V.xl (V.eo h 6 s6) (V.lr h.g.1.2.2.2.2.2.2.2.2.2.2.2 Tryz.underlying35)
  ·refine V.s2 rfl fun f W h => ?_
   refine V.call en50 (V.args2 (V.ed h 7 28 rfl) (V.ed h 8 29 rfl)) (Calls.mono (over_nn (Q.neg r) (Q.m r / (Nat.gcd (Q.m r) q.den)) h.g.1.2.2.1 h.g.1.2.2.2.2.2.2.2.2.2.1 k3 kh (Q.gcd_num_ne r q) (Q.sgn_zero (Nat.gcd_dvd_left _ _) Q.neg_zero) (Q.sgn_div (Nat.gcd_dvd_left _ _))) ?_)
   rintro e W' ⟨A84, c85, rfl, k86, p87, hb⟩
   exact ⟨_, rfl, ⟨A84, c85, rfl, k86, (fun ad e => Nat.le_trans h.g.1.2.2.2.2.1.size (p87 ad e))⟩, hb⟩
  ·refine V.s2 rfl fun f W h => ?_
   obtain ⟨A80, c81, a25, k4_0, p4_0⟩ := V.dp h 4 25 (by kernel_rfl) rfl
   obtain ⟨A84, c85, a30, k9_0, p9_0⟩ := V.dp h 9 30 (by kernel_rfl) rfl
   refine V.call en56 (V.args2 (V.ev_tmp rfl a25) (V.ev_tmp rfl a30)) (Calls.mono (product_nn (Q.neg (q * r)) (Q.m (q * r)) k4_0 k9_0 k5 k6 k9 (Q.mul_sgn q r)) ?_)
   rintro e W' ⟨A88, c89, rfl, k90, p91, hb⟩
   exact ⟨_, rfl, ⟨A88, c89, rfl, k90, (fun ad e => Nat.le_trans h.g.1.2.2.2.2.1.size (p91 ad e))⟩, hb⟩
  ·exact V.z1 rfl fun h => V.xa (V.eo h 2 s2)
  ·exact V.z1 rfl fun h => V.xa (V.ed h 11 32 rfl)
  ·exact V.z1 rfl fun h => V.xl (V.ed h 12 33 rfl) (V.ld_mid (xs := [.bool false, Vs A' q.den c']) h.g.1.2.2.2.2.2.1 (by intro j hj; match j, hj with | 0, _ => rfl | 1, _ => rfl) Tryz.underlying35)
  ·exact V.z1 rfl fun h => V.xl (V.eo h 6 s6) (V.lr h.g.1.2.2.2.2.2.2.2.2.2.2.2 Tryz.underlying35)
  ·refine V.s2 rfl fun f W h => ?_
   refine V.call en50 (V.args2 (V.ed h 13 34 rfl) (V.ed h 14 35 rfl)) (Calls.mono (over_nn false (q.den / (Nat.gcd (Q.m r) q.den)) h.g.1.2.1 h.g.1.2.2.2.2.2.2.2.2.2.1 k2 kh (Q.gcd_num_ne r q) (fun _ => rfl) (Q.sgn_div (Nat.gcd_dvd_right _ _))) ?_)
   rintro e W' ⟨A92, c93, rfl, k94, p95, hb⟩
   exact ⟨_, rfl, ⟨A92, c93, rfl, k94, (fun ad e => Nat.le_trans h.g.1.2.2.2.2.1.size (p95 ad e))⟩, hb⟩
  ·exact V.z1 rfl fun h => V.xa (V.eo h 3 s3)
  ·exact V.z1 rfl fun h => V.xa (V.ed h 16 37 rfl)
  ·exact V.z1 rfl fun h => V.xl (V.ed h 17 38 rfl) (V.ld_mid (xs := [.bool false, Vs B' r.den e']) h.g.1.2.2.2.2.2.2.1 (by intro j hj; match j, hj with | 0, _ => rfl | 1, _ => rfl) Tryz.underlying35)
  ·exact V.z1 rfl fun h => V.xl (V.eo h 5 s5) (V.lr h.g.1.2.2.2.2.2.2.2.2.2.2.1 Tryz.underlying35)
  ·refine V.s2 rfl fun f W h => ?_
   refine V.call en50 (V.args2 (V.ed h 18 39 rfl) (V.ed h 19 40 rfl)) (Calls.mono (over_nn false (r.den / (Nat.gcd (Q.m q) r.den)) h.g.1.2.2.2.1 h.g.1.2.2.2.2.2.2.2.2.1 k4 kg (Q.gcd_num_ne q r) (fun _ => rfl) (Q.sgn_div (Nat.gcd_dvd_right _ _))) ?_)
   rintro e W' ⟨A96, c97, rfl, k98, p99, hb⟩
   exact ⟨_, rfl, ⟨A96, c97, rfl, k98, (fun ad e => Nat.le_trans h.g.1.2.2.2.2.1.size (p99 ad e))⟩, hb⟩
  ·refine V.s2 rfl fun f W h => ?_
   obtain ⟨A92, c93, a36, k15_0, p15_0⟩ := V.dp h 15 36 (by kernel_rfl) rfl
   obtain ⟨A96, c97, a41, k20_0, p20_0⟩ := V.dp h 20 41 (by kernel_rfl) rfl
   refine V.call en56 (V.args2 (V.ev_tmp rfl a36) (V.ev_tmp rfl a41)) (Calls.mono (product_nn false ((q * r).den) k15_0 k20_0 k7 k8 k10 (by rw [Q.mul_den]; exact Q.sgn_mul_f _ _ _)) ?_)
   rintro e W' ⟨A100, c101, rfl, k102, p103, hb⟩
   exact ⟨_, rfl, ⟨A100, c101, rfl, k102, (fun ad e => Nat.le_trans h.g.1.2.2.2.2.1.size (p103 ad e))⟩, hb⟩
  ·refine V.s2 rfl fun f W h => ?_
   obtain ⟨A88, c89, a31, k10_0, p10_0⟩ := V.dp h 10 31 (by kernel_rfl) rfl
   obtain ⟨A100, c101, a42, k21_0, p21_0⟩ := V.dp h 21 42 (by kernel_rfl) rfl
   exact V.v2 (.agg #[.bool (Q.neg (q * r)), Vs A88 (Q.m (q * r)) c89, .bool false, Vs A100 ((q * r).den) c101]) (V.b2 (V.ev_tmp rfl a31) (V.ev_tmp rfl a42)) ⟨A88, c89, A100, c101, rfl, k10_0, k21_0, p10_0, p21_0⟩
  ·refine V.s2 rfl fun f W h => ?_
   obtain ⟨A104, c105, A106, c107, a43, k22_0, k22_1, p22_0, p22_1⟩ := V.dp h 22 43 (by kernel_rfl) rfl
   exact V.v2 (.agg #[.bool (Q.neg (q * r)), Vs A104 (Q.m (q * r)) c105, .bool false, Vs A106 ((q * r).den) c107]) (V.b1 (V.ev_tmp rfl a43)) ⟨A104, c105, A106, c107, rfl, k22_0, k22_1, p22_0, p22_1⟩
 intro f112 W113 e114
 clear h1 h2 h3 h4 hb bg55 bg56 bg57 r74 r76 bg69 bg70
 obtain ⟨⟨h1, h2, h3, h4, hb, bg55, bg56, bg57, r74, r76, bg69, bg70⟩, z_⟩ := e114.g
 obtain ⟨s0, s1, s4⟩ := V.e3 e114 s0 s1 s4
 obtain ⟨A108, c109, A110, c111, s44, r115, r116, n117, n118⟩ := V.eq e114 23 44 rfl
 clear e114 z_
 refine V.tsr (k := 24) rfl s4 s44 bg57 fun W119 hs b' => ?_
 replace h1 := hs.r16 h1
 replace h2 := hs.r16 h2
 replace h3 := hs.r16 h3
 replace h4 := hs.r16 h4
 replace hb := hs.bel hb mg57
 replace bg55 := hs.blk bg55 q55_57
 replace bg56 := hs.blk bg56 q56_57
 replace r74 := hs.r16 r74
 replace r76 := hs.r16 r76
 replace bg69 := hs.blk bg69 (Ne.symm q57_69)
 replace bg70 := hs.blk bg70 (Ne.symm q57_70)
 replace r115 := hs.r16 r115
 replace r116 := hs.r16 r116
 replace bg57 := b'
 clear hs b'
 refine V.t_done rfl (V.nx (V.ret ?_))
 refine V.leave_any (.inl rfl) (V.res_cell rfl rfl s4 (V.lr bg57 Tryz.underlying82 rfl (by kernel_rfl))) ?_
 exact ⟨A108, c109, A110, c111, rfl, r115, r116, n117, n118, hb⟩
theorem plus_q {A A' B B' : Option Addr} {c c' e e' : Nat} {q r : Rat} {w : World} {k l : Nat} (h1 : R16 w A (Lb.limbs (Q.m q)).length c (Lb.limbs (Q.m q))) (h2 : R16 w A' (Lb.limbs q.den).length c' (Lb.limbs q.den)) (h3 : R16 w B (Lb.limbs (Q.m r)).length e (Lb.limbs (Q.m r))) (h4 : R16 w B' (Lb.limbs r.den).length e' (Lb.limbs r.den)) (hq : Q.Sz k q) (hr : Q.Sz l r) (hk : k + l + 1 ≤ 1024) :
    Calls Tryz.prog 54 #[.agg #[.bool (Q.neg q), Vs A (Q.m q) c, .bool false, Vs A' q.den c'], .agg #[.bool (Q.neg r), Vs B (Q.m r) e, .bool false, Vs B' r.den e']] w (RetF w (Q.neg (q + r)) (Q.m (q + r)) (q + r).den) := by
 have hkl1 : k ≤ max k l := Nat.le_max_left _ _
 have hkl2 : l ≤ max k l := Nat.le_max_right _ _
 have hkm : max k l ≤ 1024 := by omega
 have k1 : Nv (Q.neg q) (Q.m q) := nv_mk hq.n (by omega) Q.neg_zero
 have k2 : Nv false q.den := nv_mk hq.d (by omega) (fun _ => rfl)
 have k3 : Nv (Q.neg r) (Q.m r) := nv_mk hr.n (by omega) Q.neg_zero
 have k4 : Nv false r.den := nv_mk hr.d (by omega) (fun _ => rfl)
 have kgl : (Nat.gcd q.den r.den) < 65536 ^ max k l := Q.gcd_lt (hq.mono hkl1).d (hr.mono hkl2).d
 have kg : Nv false (Nat.gcd q.den r.den) := nv_mk kgl hkm (fun _ => rfl)
 have k5 : Nv false (q.den / (Nat.gcd q.den r.den)) := nv_mk (Q.div_lt hq.d) (by omega) (fun _ => rfl)
 have k6 : Nv false (r.den / (Nat.gcd q.den r.den)) := nv_mk (Q.div_lt hr.d) (by omega) (fun _ => rfl)
 have z7 : Q.m q * (r.den / (Nat.gcd q.den r.den)) = 0 → Q.neg q = false := fun h => Q.neg_zero ((Nat.mul_eq_zero.1 h).resolve_right (Q.div_ne (Nat.gcd_dvd_right _ _) r.den_nz))
 have z8 : Q.m r * (q.den / (Nat.gcd q.den r.den)) = 0 → Q.neg r = false := fun h => Q.neg_zero ((Nat.mul_eq_zero.1 h).resolve_right (Q.div_ne (Nat.gcd_dvd_left _ _) q.den_nz))
 have k7 : Nv (Q.neg q) (Q.m q * (r.den / (Nat.gcd q.den r.den))) := nv_mk (Q.mul_lt hq.n (Q.div_lt hr.d)) (by omega) z7
 have k8 : Nv (Q.neg r) (Q.m r * (q.den / (Nat.gcd q.den r.den))) := nv_mk (Q.mul_lt hr.n (Q.div_lt hq.d)) (by omega) z8
 have k9 : Nv (decide (Q.addN q r < 0)) (Q.addN q r).natAbs := nv_mk (Q.addN_lt hq hr) hk Q.zneg
 have kh : Nv false (Nat.gcd (Q.addN q r).natAbs (Nat.gcd q.den r.den)) := nv_mk (Nat.lt_of_le_of_lt (Nat.gcd_le_right _ (Nat.pos_of_ne_zero (Q.gcd_den_ne q r))) kgl) hkm (fun _ => rfl)
 have hne : (Nat.gcd (Q.addN q r).natAbs (Nat.gcd q.den r.den)) ≠ 0 := Nat.ne_of_gt (Nat.gcd_pos_of_pos_right _ (Nat.pos_of_ne_zero (Q.gcd_den_ne q r)))
 have hdv : (Nat.gcd (Q.addN q r).natAbs (Nat.gcd q.den r.den)) ∣ r.den := Nat.dvd_trans (Nat.gcd_dvd_right _ _) (Nat.gcd_dvd_right _ _)
 have k10 : Nv false (r.den / (Nat.gcd (Q.addN q r).natAbs (Nat.gcd q.den r.den))) := nv_mk (Q.div_lt hr.d) (by omega) (fun _ => rfl)
 have k11 : Nv (Q.neg (q + r)) (Q.m (q + r)) := nv_mk (Q.Sz.add hq hr).n hk Q.neg_zero
 have k12 : Nv false (q + r).den := nv_mk (Q.Sz.add hq hr).d hk (fun _ => rfl)
 refine V.nt Tryz.func54 rfl rfl fun f0 hf => ?_
 have s0 : f0 0 = .agg #[.bool (Q.neg q), Vs A (Q.m q) c, .bool false, Vs A' q.den c'] := hf 0 (by simp)
 have s1 : f0 1 = .agg #[.bool (Q.neg r), Vs B (Q.m r) e, .bool false, Vs B' r.den e'] := hf 1 (by simp)
 clear hf
 have hb := Below.refl w.heap.size w
 refine V.seq ?_
 refine V.reg 3 [V.Nb w 82 #[.bool (Q.neg q), Vs A (Q.m q) c, .bool false, Vs A' q.den c'], V.Nb w 82 #[.bool (Q.neg r), Vs B (Q.m r) e, .bool false, Vs B' r.den e'], V.Nb w 82 #[.bool false, .slice none 0 0, .bool false, .slice none 0 0]] [0, 1, 2] (V.i h1 (V.i h2 (V.i h3 (V.i h4 hb)))) ?_ ?_
 ·refine V.a3 ?_ ?_ ?_
  ·exact V.sn rfl fun f W h => V.x_box (V.eo h 0 s0)
  ·exact V.sn rfl fun f W h => V.x_box (V.eo h 1 s1)
  ·exact V.sn rfl fun f W h => V.x_alloc
 have o_bel := hb.size
 intro f123 W124 e125
 clear h1 h2 h3 h4 hb
 obtain ⟨⟨h1, h2, h3, h4, hb⟩, z_⟩ := e125.g
 obtain ⟨s0, s1⟩ := V.e2 e125 s0 s1
 obtain ⟨g120, s2, bg120, lg120⟩ := V.eq e125 0 2 rfl
 obtain ⟨g121, s3, bg121, lg121⟩ := V.eq e125 1 3 rfl
 obtain ⟨g122, s4, bg122, lg122⟩ := V.eq e125 2 4 rfl
 have mg122 := Nat.le_trans o_bel lg122
 have q121_122 : g121 ≠ g122 := V.ep e125 1 2 3 4 s3 s4
 clear e125 z_
 clear o_bel
 refine V.t_done rfl (V.nx (V.seq ?_))
 refine V.reg 8 [V.E (Vp g120 0), V.E (Vp g120 2), V.E (.agg #[.bool false, Vs A' q.den c']), V.E (Vp g121 0), V.E (Vp g121 2), V.E (.agg #[.bool false, Vs B' r.den e']), (fun v W => ∃ A126 : Option Addr, ∃ c127 : Nat, v = .agg #[.bool false, Vs A126 (Nat.gcd q.den r.den) c127] ∧ R16 W A126 ((Lb.limbs (Nat.gcd q.den r.den)).length) c127 (Lb.limbs (Nat.gcd q.den r.den)) ∧ (∀ ad, A126 = some ad → w.heap.size ≤ ad.block)), V.Nb W124 35 #[.bool false, .slice none 0 0]] [7] (V.i h1 (V.i h2 (V.i h3 (V.i h4 (V.i hb (V.i bg120 (V.i bg121 bg122))))))) ?_ ?_
 ·refine V.a8 ?_ ?_ ?_ ?_ ?_ ?_ ?_ ?_
  ·exact V.z1 rfl fun h => V.xa (V.eo h 2 s2)
  ·exact V.z1 rfl fun h => V.xa (V.ed h 0 9 rfl)
  ·exact V.z1 rfl fun h => V.xl (V.ed h 1 10 rfl) (V.ld_mid (xs := [.bool false, Vs A' q.den c']) h.g.1.2.2.2.2.2.1 (by intro j hj; match j, hj with | 0, _ => rfl | 1, _ => rfl) Tryz.underlying35)
  ·exact V.z1 rfl fun h => V.xa (V.eo h 3 s3)
  ·exact V.z1 rfl fun h => V.xa (V.ed h 3 12 rfl)
  ·exact V.z1 rfl fun h => V.xl (V.ed h 4 13 rfl) (V.ld_mid (xs := [.bool false, Vs B' r.den e']) h.g.1.2.2.2.2.2.2.1 (by intro j hj; match j, hj with | 0, _ => rfl | 1, _ => rfl) Tryz.underlying35)
  ·refine V.s2 rfl fun f W h => ?_
   refine V.call en48 (V.args2 (V.ed h 2 11 rfl) (V.ed h 5 14 rfl)) (Calls.mono ((common_nn h.g.1.2.1 h.g.1.2.2.2.1 k2 k4)) ?_)
   rintro e W' ⟨A126, c127, rfl, k128, p129, hb⟩
   exact ⟨_, rfl, ⟨A126, c127, rfl, k128, (fun ad e => Nat.le_trans h.g.1.2.2.2.2.1.size (p129 ad e))⟩, hb⟩
  ·exact V.sn rfl fun f W h => V.x_alloc
 have o_g120 := bg120.lt
 have o_g121 := bg121.lt
 have o_g122 := bg122.lt
 have o_bel := hb.size
 intro f131 W132 e133
 clear h1 h2 h3 h4 hb bg120 bg121 bg122
 obtain ⟨⟨h1, h2, h3, h4, hb, bg120, bg121, bg122⟩, z_⟩ := e133.g
 obtain ⟨s0, s1, s2, s3, s4⟩ := V.e5 e133 s0 s1 s2 s3 s4
 obtain ⟨A126, c127, s15, r134, n135⟩ := V.eq e133 6 15 rfl
 obtain ⟨g130, s5, bg130, lg130⟩ := V.eq e133 7 5 rfl
 have mg130 := Nat.le_trans o_bel lg130
 have q120_130 : g120 ≠ g130 := by omega
 have q121_130 : g121 ≠ g130 := by omega
 have q122_130 : g122 ≠ g130 := by omega
 clear e133 z_
 clear o_bel o_g120 o_g121 o_g122
 refine V.tsr (k := 8) rfl s5 s15 bg130 fun W136 hs b' => ?_
 replace h1 := hs.r16 h1
 replace h2 := hs.r16 h2
 replace h3 := hs.r16 h3
 replace h4 := hs.r16 h4
 replace hb := hs.bel hb mg130
 replace bg120 := hs.blk bg120 q120_130
 replace bg121 := hs.blk bg121 q121_130
 replace bg122 := hs.blk bg122 q122_130
 replace r134 := hs.r16 r134
 replace bg130 := b'
 clear hs b'
 refine V.t_done rfl (V.nx (V.seq ?_))
 refine V.reg 6 [V.E (Vp g120 0), V.E (Vp g120 2), V.E (.agg #[.bool false, Vs A' q.den c']), V.E (.agg #[.bool false, Vs A126 (Nat.gcd q.den r.den) c127]), (fun v W => ∃ A137 : Option Addr, ∃ c138 : Nat, v = .agg #[.bool false, Vs A137 (q.den / (Nat.gcd q.den r.den)) c138] ∧ R16 W A137 ((Lb.limbs (q.den / (Nat.gcd q.den r.den))).length) c138 (Lb.limbs (q.den / (Nat.gcd q.den r.den))) ∧ (∀ ad, A137 = some ad → w.heap.size ≤ ad.block)), V.Nb W136 35 #[.bool false, .slice none 0 0]] [5] (V.i h1 (V.i h2 (V.i h3 (V.i h4 (V.i hb (V.i bg120 (V.i bg121 (V.i bg122 (V.i r134 bg130))))))))) ?_ ?_
 ·refine V.a6 ?_ ?_ ?_ ?_ ?_ ?_
  ·exact V.z1 rfl fun h => V.xa (V.eo h 2 s2)
  ·exact V.z1 rfl fun h => V.xa (V.ed h 0 16 rfl)
  ·exact V.z1 rfl fun h => V.xl (V.ed h 1 17 rfl) (V.ld_mid (xs := [.bool false, Vs A' q.den c']) h.g.1.2.2.2.2.2.1 (by intro j hj; match j, hj with | 0, _ => rfl | 1, _ => rfl) Tryz.underlying35)
  ·exact V.z1 rfl fun h => V.xl (V.eo h 5 s5) (V.lr h.g.1.2.2.2.2.2.2.2.2.2 Tryz.underlying35)
  ·refine V.s2 rfl fun f W h => ?_
   refine V.call en50 (V.args2 (V.ed h 2 18 rfl) (V.ed h 3 19 rfl)) (Calls.mono (over_nn false (q.den / (Nat.gcd q.den r.den)) h.g.1.2.1 h.g.1.2.2.2.2.2.2.2.2.1 k2 kg (Q.gcd_den_ne q r) (fun _ => rfl) (Q.sgn_div (Nat.gcd_dvd_left _ _))) ?_)
   rintro e W' ⟨A137, c138, rfl, k139, p140, hb⟩
   exact ⟨_, rfl, ⟨A137, c138, rfl, k139, (fun ad e => Nat.le_trans h.g.1.2.2.2.2.1.size (p140 ad e))⟩, hb⟩
  ·exact V.sn rfl fun f W h => V.x_alloc
 have o_g120 := bg120.lt
 have o_g121 := bg121.lt
 have o_g122 := bg122.lt
 have o_g130 := bg130.lt
 have o_bel := hb.size
 intro f142 W143 e144
 clear h1 h2 h3 h4 hb bg120 bg121 bg122 r134 bg130
 obtain ⟨⟨h1, h2, h3, h4, hb, bg120, bg121, bg122, r134, bg130⟩, z_⟩ := e144.g
 obtain ⟨s0, s1, s2, s3, s4, s5⟩ := V.e6 e144 s0 s1 s2 s3 s4 s5
 obtain ⟨A137, c138, s20, r145, n146⟩ := V.eq e144 4 20 rfl
 obtain ⟨g141, s6, bg141, lg141⟩ := V.eq e144 5 6 rfl
 have mg141 := Nat.le_trans o_bel lg141
 have q120_141 : g120 ≠ g141 := by omega
 have q121_141 : g121 ≠ g141 := by omega
 have q122_141 : g122 ≠ g141 := by omega
 have q130_141 : g130 ≠ g141 := by omega
 clear e144 z_
 clear o_bel o_g120 o_g121 o_g122 o_g130
 refine V.tsr (k := 6) rfl s6 s20 bg141 fun W147 hs b' => ?_
 replace h1 := hs.r16 h1
 replace h2 := hs.r16 h2
 replace h3 := hs.r16 h3
 replace h4 := hs.r16 h4
 replace hb := hs.bel hb mg141
 replace bg120 := hs.blk bg120 q120_141
 replace bg121 := hs.blk bg121 q121_141
 replace bg122 := hs.blk bg122 q122_141
 replace r134 := hs.r16 r134
 replace bg130 := hs.blk bg130 q130_141
 replace r145 := hs.r16 r145
 replace bg141 := b'
 clear hs b'
 refine V.t_done rfl (V.nx (V.seq ?_))
 refine V.reg 16 [V.E (Vp g120 0), V.E (Vp g120 0), V.E (.agg #[.bool (Q.neg q), Vs A (Q.m q) c]), V.E (Vp g121 0), V.E (Vp g121 2), V.E (.agg #[.bool false, Vs B' r.den e']), V.E (.agg #[.bool false, Vs A126 (Nat.gcd q.den r.den) c127]), (fun v W => ∃ A148 : Option Addr, ∃ c149 : Nat, v = .agg #[.bool false, Vs A148 (r.den / (Nat.gcd q.den r.den)) c149] ∧ R16 W A148 ((Lb.limbs (r.den / (Nat.gcd q.den r.den))).length) c149 (Lb.limbs (r.den / (Nat.gcd q.den r.den))) ∧ (∀ ad, A148 = some ad → w.heap.size ≤ ad.block)), (fun v W => ∃ A152 : Option Addr, ∃ c153 : Nat, v = .agg #[.bool (Q.neg q), .slice A152 (Lb.limbs (Q.m q * (r.den / (Nat.gcd q.den r.den)))).length c153] ∧ R16 W A152 ((Lb.limbs (Q.m q * (r.den / (Nat.gcd q.den r.den)))).length) c153 (Lb.limbs (Q.m q * (r.den / (Nat.gcd q.den r.den)))) ∧ (∀ ad, A152 = some ad → w.heap.size ≤ ad.block)), V.E (Vp g121 0), V.E (Vp g121 0), V.E (.agg #[.bool (Q.neg r), Vs B (Q.m r) e]), V.E (.agg #[.bool false, Vs A137 (q.den / (Nat.gcd q.den r.den)) c138]), (fun v W => ∃ A156 : Option Addr, ∃ c157 : Nat, v = .agg #[.bool (Q.neg r), .slice A156 (Lb.limbs (Q.m r * (q.den / (Nat.gcd q.den r.den)))).length c157] ∧ R16 W A156 ((Lb.limbs (Q.m r * (q.den / (Nat.gcd q.den r.den)))).length) c157 (Lb.limbs (Q.m r * (q.den / (Nat.gcd q.den r.den)))) ∧ (∀ ad, A156 = some ad → w.heap.size ≤ ad.block)), (fun v W => ∃ A160 : Option Addr, ∃ c161 : Nat, v = .agg #[.bool (decide (Q.addN q r < 0)), Vs A160 ((Q.addN q r).natAbs) c161] ∧ R16 W A160 ((Lb.limbs ((Q.addN q r).natAbs)).length) c161 (Lb.limbs ((Q.addN q r).natAbs)) ∧ (∀ ad, A160 = some ad → w.heap.size ≤ ad.block)), V.Nb W147 35 #[.bool false, .slice none 0 0]] [15] (V.i h1 (V.i h2 (V.i h3 (V.i h4 (V.i hb (V.i bg120 (V.i bg121 (V.i bg122 (V.i r134 (V.i bg130 (V.i r145 bg141))))))))))) ?_ ?_
 ·refine V.b8 ?_ ?_ ?_ ?_ ?_ ?_ ?_ ?_ (V.a8 ?_ ?_ ?_ ?_ ?_ ?_ ?_ ?_)
  ·exact V.z1 rfl fun h => V.xa (V.eo h 2 s2)
  ·exact V.z1 rfl fun h => V.xa (V.ed h 0 21 rfl)
  ·exact V.z1 rfl fun h => V.xl (V.ed h 1 22 rfl) (V.ld_mid (xs := [.bool (Q.neg q), Vs A (Q.m q) c]) h.g.1.2.2.2.2.2.1 (by intro j hj; match j, hj with | 0, _ => rfl | 1, _ => rfl) Tryz.underlying35)
  ·exact V.z1 rfl fun h => V.xa (V.eo h 3 s3)
  ·exact V.z1 rfl fun h => V.xa (V.ed h 3 24 rfl)
  ·exact V.z1 rfl fun h => V.xl (V.ed h 4 25 rfl) (V.ld_mid (xs := [.bool false, Vs B' r.den e']) h.g.1.2.2.2.2.2.2.1 (by intro j hj; match j, hj with | 0, _ => rfl | 1, _ => rfl) Tryz.underlying35)
  ·exact V.z1 rfl fun h => V.xl (V.eo h 5 s5) (V.lr h.g.1.2.2.2.2.2.2.2.2.2.1 Tryz.underlying35)
  ·refine V.s2 rfl fun f W h => ?_
   refine V.call en50 (V.args2 (V.ed h 5 26 rfl) (V.ed h 6 27 rfl)) (Calls.mono (over_nn false (r.den / (Nat.gcd q.den r.den)) h.g.1.2.2.2.1 h.g.1.2.2.2.2.2.2.2.2.1 k4 kg (Q.gcd_den_ne q r) (fun _ => rfl) (Q.sgn_div (Nat.gcd_dvd_right _ _))) ?_)
   rintro e W' ⟨A148, c149, rfl, k150, p151, hb⟩
   exact ⟨_, rfl, ⟨A148, c149, rfl, k150, (fun ad e => Nat.le_trans h.g.1.2.2.2.2.1.size (p151 ad e))⟩, hb⟩
  ·refine V.s2 rfl fun f W h => ?_
   obtain ⟨A148, c149, a28, k7_0, p7_0⟩ := V.dp h 7 28 (by kernel_rfl) rfl
   refine V.call en56 (V.args2 (V.ed h 2 23 rfl) (V.ev_tmp rfl a28)) (Calls.mono (product_nn (Q.neg q) (Q.m q * (r.den / (Nat.gcd q.den r.den))) h.g.1.1 k7_0 k1 k6 k7 (Q.sgn_mul_f _ _ _)) ?_)
   rintro e W' ⟨A152, c153, rfl, k154, p155, hb⟩
   exact ⟨_, rfl, ⟨A152, c153, rfl, k154, (fun ad e => Nat.le_trans h.g.1.2.2.2.2.1.size (p155 ad e))⟩, hb⟩
  ·exact V.z1 rfl fun h => V.xa (V.eo h 3 s3)
  ·exact V.z1 rfl fun h => V.xa (V.ed h 9 30 rfl)
  ·exact V.z1 rfl fun h => V.xl (V.ed h 10 31 rfl) (V.ld_mid (xs := [.bool (Q.neg r), Vs B (Q.m r) e]) h.g.1.2.2.2.2.2.2.1 (by intro j hj; match j, hj with | 0, _ => rfl | 1, _ => rfl) Tryz.underlying35)
  ·exact V.z1 rfl fun h => V.xl (V.eo h 6 s6) (V.lr h.g.1.2.2.2.2.2.2.2.2.2.2.2 Tryz.underlying35)
  ·refine V.s2 rfl fun f W h => ?_
   refine V.call en56 (V.args2 (V.ed h 11 32 rfl) (V.ed h 12 33 rfl)) (Calls.mono (product_nn (Q.neg r) (Q.m r * (q.den / (Nat.gcd q.den r.den))) h.g.1.2.2.1 h.g.1.2.2.2.2.2.2.2.2.2.2.1 k3 k5 k8 (Q.sgn_mul_f _ _ _)) ?_)
   rintro e W' ⟨A156, c157, rfl, k158, p159, hb⟩
   exact ⟨_, rfl, ⟨A156, c157, rfl, k158, (fun ad e => Nat.le_trans h.g.1.2.2.2.2.1.size (p159 ad e))⟩, hb⟩
  ·refine V.s2 rfl fun f W h => ?_
   obtain ⟨A152, c153, a29, k8_0, p8_0⟩ := V.dp h 8 29 (by kernel_rfl) rfl
   obtain ⟨A156, c157, a34, k13_0, p13_0⟩ := V.dp h 13 34 (by kernel_rfl) rfl
   refine V.call en94 (V.args2 (V.ev_tmp rfl a29) (V.ev_tmp rfl a34)) (Calls.mono (sum_nn (decide (Q.addN q r < 0)) ((Q.addN q r).natAbs) k8_0 k13_0 k7 k8 k9 (Q.addN_sgn q r)) ?_)
   rintro e W' ⟨A160, c161, rfl, k162, p163, hb⟩
   exact ⟨_, rfl, ⟨A160, c161, rfl, k162, (fun ad e => Nat.le_trans h.g.1.2.2.2.2.1.size (p163 ad e))⟩, hb⟩
  ·exact V.sn rfl fun f W h => V.x_alloc
 have o_g120 := bg120.lt
 have o_g121 := bg121.lt
 have o_g122 := bg122.lt
 have o_g130 := bg130.lt
 have o_g141 := bg141.lt
 have o_bel := hb.size
 intro f165 W166 e167
 clear h1 h2 h3 h4 hb bg120 bg121 bg122 r134 bg130 r145 bg141
 obtain ⟨⟨h1, h2, h3, h4, hb, bg120, bg121, bg122, r134, bg130, r145, bg141⟩, z_⟩ := e167.g
 obtain ⟨s0, s1, s3, s4, s5, s6⟩ := V.e6 e167 s0 s1 s3 s4 s5 s6
 obtain ⟨A160, c161, s35, r168, n169⟩ := V.eq e167 14 35 rfl
 obtain ⟨g164, s7, bg164, lg164⟩ := V.eq e167 15 7 rfl
 have mg164 := Nat.le_trans o_bel lg164
 have q120_164 : g120 ≠ g164 := by omega
 have q121_164 : g121 ≠ g164 := by omega
 have q122_164 : g122 ≠ g164 := by omega
 have q130_164 : g130 ≠ g164 := by omega
 have q141_164 : g141 ≠ g164 := by omega
 clear e167 z_
 clear o_bel o_g120 o_g121 o_g122 o_g130 o_g141
 refine V.tsr (k := 16) rfl s7 s35 bg164 fun W170 hs b' => ?_
 replace h1 := hs.r16 h1
 replace h2 := hs.r16 h2
 replace h3 := hs.r16 h3
 replace h4 := hs.r16 h4
 replace hb := hs.bel hb mg164
 replace bg120 := hs.blk bg120 q120_164
 replace bg121 := hs.blk bg121 q121_164
 replace bg122 := hs.blk bg122 q122_164
 replace r134 := hs.r16 r134
 replace bg130 := hs.blk bg130 q130_164
 replace r145 := hs.r16 r145
 replace bg141 := hs.blk bg141 q141_164
 replace r168 := hs.r16 r168
 replace bg164 := b'
 clear hs b'
 refine V.t_done rfl (V.nx (V.seq ?_))
 clear bg120
 refine V.reg 4 [V.E (.agg #[.bool (decide (Q.addN q r < 0)), Vs A160 ((Q.addN q r).natAbs) c161]), V.E (.agg #[.bool false, Vs A126 (Nat.gcd q.den r.den) c127]), (fun v W => ∃ A171 : Option Addr, ∃ c172 : Nat, v = .agg #[.bool false, Vs A171 (Nat.gcd (Q.addN q r).natAbs (Nat.gcd q.den r.den)) c172] ∧ R16 W A171 ((Lb.limbs (Nat.gcd (Q.addN q r).natAbs (Nat.gcd q.den r.den))).length) c172 (Lb.limbs (Nat.gcd (Q.addN q r).natAbs (Nat.gcd q.den r.den))) ∧ (∀ ad, A171 = some ad → w.heap.size ≤ ad.block)), V.Nb W170 35 #[.bool false, .slice none 0 0]] [3] (V.i h1 (V.i h2 (V.i h3 (V.i h4 (V.i hb (V.i bg121 (V.i bg122 (V.i r134 (V.i bg130 (V.i r145 (V.i bg141 (V.i r168 bg164)))))))))))) ?_ ?_
 ·refine V.a4 ?_ ?_ ?_ ?_
  ·exact V.z1 rfl fun h => V.xl (V.eo h 7 s7) (V.lr h.g.1.2.2.2.2.2.2.2.2.2.2.2.2 Tryz.underlying35)
  ·exact V.z1 rfl fun h => V.xl (V.eo h 5 s5) (V.lr h.g.1.2.2.2.2.2.2.2.2.1 Tryz.underlying35)
  ·refine V.s2 rfl fun f W h => ?_
   refine V.call en48 (V.args2 (V.ed h 0 36 rfl) (V.ed h 1 37 rfl)) (Calls.mono ((common_nn h.g.1.2.2.2.2.2.2.2.2.2.2.2.1 h.g.1.2.2.2.2.2.2.2.1 k9 kg)) ?_)
   rintro e W' ⟨A171, c172, rfl, k173, p174, hb⟩
   exact ⟨_, rfl, ⟨A171, c172, rfl, k173, (fun ad e => Nat.le_trans h.g.1.2.2.2.2.1.size (p174 ad e))⟩, hb⟩
  ·exact V.sn rfl fun f W h => V.x_alloc
 have o_g121 := bg121.lt
 have o_g122 := bg122.lt
 have o_g130 := bg130.lt
 have o_g141 := bg141.lt
 have o_g164 := bg164.lt
 have o_bel := hb.size
 intro f176 W177 e178
 clear h1 h2 h3 h4 hb bg121 bg122 r134 bg130 r145 bg141 r168 bg164
 obtain ⟨⟨h1, h2, h3, h4, hb, bg121, bg122, r134, bg130, r145, bg141, r168, bg164⟩, z_⟩ := e178.g
 obtain ⟨s0, s1, s3, s4, s6, s7⟩ := V.e6 e178 s0 s1 s3 s4 s6 s7
 obtain ⟨A171, c172, s38, r179, n180⟩ := V.eq e178 2 38 rfl
 obtain ⟨g175, s8, bg175, lg175⟩ := V.eq e178 3 8 rfl
 have mg175 := Nat.le_trans o_bel lg175
 have q121_175 : g121 ≠ g175 := by omega
 have q122_175 : g122 ≠ g175 := by omega
 have q130_175 : g130 ≠ g175 := by omega
 have q141_175 : g141 ≠ g175 := by omega
 have q164_175 : g164 ≠ g175 := by omega
 clear e178 z_
 clear o_bel o_g121 o_g122 o_g130 o_g141 o_g164
 refine V.tsr (k := 4) rfl s8 s38 bg175 fun W181 hs b' => ?_
 replace h1 := hs.r16 h1
 replace h2 := hs.r16 h2
 replace h3 := hs.r16 h3
 replace h4 := hs.r16 h4
 replace hb := hs.bel hb mg175
 replace bg121 := hs.blk bg121 q121_175
 replace bg122 := hs.blk bg122 q122_175
 replace r134 := hs.r16 r134
 replace bg130 := hs.blk bg130 q130_175
 replace r145 := hs.r16 r145
 replace bg141 := hs.blk bg141 q141_175
 replace r168 := hs.r16 r168
 replace bg164 := hs.blk bg164 q164_175
 replace r179 := hs.r16 r179
 replace bg175 := b'
 clear hs b'
 refine V.t_done rfl (V.nx (V.seq ?_))
 clear r134 bg130
 refine V.reg 12 [V.E (.agg #[.bool (decide (Q.addN q r < 0)), Vs A160 ((Q.addN q r).natAbs) c161]), V.E (.agg #[.bool false, Vs A171 (Nat.gcd (Q.addN q r).natAbs (Nat.gcd q.den r.den)) c172]), (fun v W => ∃ A182 : Option Addr, ∃ c183 : Nat, v = .agg #[.bool (Q.neg (q + r)), Vs A182 (Q.m (q + r)) c183] ∧ R16 W A182 ((Lb.limbs (Q.m (q + r))).length) c183 (Lb.limbs (Q.m (q + r))) ∧ (∀ ad, A182 = some ad → w.heap.size ≤ ad.block)), V.E (.agg #[.bool false, Vs A137 (q.den / (Nat.gcd q.den r.den)) c138]), V.E (Vp g121 0), V.E (Vp g121 2), V.E (.agg #[.bool false, Vs B' r.den e']), V.E (.agg #[.bool false, Vs A171 (Nat.gcd (Q.addN q r).natAbs (Nat.gcd q.den r.den)) c172]), (fun v W => ∃ A186 : Option Addr, ∃ c187 : Nat, v = .agg #[.bool false, .slice A186 (Lb.limbs (r.den / (Nat.gcd (Q.addN q r).natAbs (Nat.gcd q.den r.den)))).length c187] ∧ R16 W A186 ((Lb.limbs (r.den / (Nat.gcd (Q.addN q r).natAbs (Nat.gcd q.den r.den)))).length) c187 (Lb.limbs (r.den / (Nat.gcd (Q.addN q r).natAbs (Nat.gcd q.den r.den)))) ∧ (∀ ad, A186 = some ad → w.heap.size ≤ ad.block)), (fun v W => ∃ A190 : Option Addr, ∃ c191 : Nat, v = .agg #[.bool false, Vs A190 ((q + r).den) c191] ∧ R16 W A190 ((Lb.limbs ((q + r).den)).length) c191 (Lb.limbs ((q + r).den)) ∧ (∀ ad, A190 = some ad → w.heap.size ≤ ad.block)), (fun v W => ∃ A194 : Option Addr, ∃ c195 : Nat, ∃ A196 : Option Addr, ∃ c197 : Nat, v = .agg #[.bool (Q.neg (q + r)), Vs A194 (Q.m (q + r)) c195, .bool false, Vs A196 ((q + r).den) c197] ∧ R16 W A194 ((Lb.limbs (Q.m (q + r))).length) c195 (Lb.limbs (Q.m (q + r))) ∧ R16 W A196 ((Lb.limbs ((q + r).den)).length) c197 (Lb.limbs ((q + r).den)) ∧ (∀ ad, A194 = some ad → w.heap.size ≤ ad.block) ∧ (∀ ad, A196 = some ad → w.heap.size ≤ ad.block)), (fun v W => ∃ A198 : Option Addr, ∃ c199 : Nat, ∃ A200 : Option Addr, ∃ c201 : Nat, v = .agg #[.bool (Q.neg (q + r)), Vs A198 (Q.m (q + r)) c199, .bool false, Vs A200 ((q + r).den) c201] ∧ R16 W A198 ((Lb.limbs (Q.m (q + r))).length) c199 (Lb.limbs (Q.m (q + r))) ∧ R16 W A200 ((Lb.limbs ((q + r).den)).length) c201 (Lb.limbs ((q + r).den)) ∧ (∀ ad, A198 = some ad → w.heap.size ≤ ad.block) ∧ (∀ ad, A200 = some ad → w.heap.size ≤ ad.block))] [] (V.i h1 (V.i h2 (V.i h3 (V.i h4 (V.i hb (V.i bg121 (V.i bg122 (V.i r145 (V.i bg141 (V.i r168 (V.i bg164 (V.i r179 bg175)))))))))))) ?_ ?_
 ·refine V.b8 ?_ ?_ ?_ ?_ ?_ ?_ ?_ ?_ (V.a4 ?_ ?_ ?_ ?_)
  ·exact V.z1 rfl fun h => V.xl (V.eo h 7 s7) (V.lr h.g.1.2.2.2.2.2.2.2.2.2.2.1 Tryz.underlying35)
  ·exact V.z1 rfl fun h => V.xl (V.eo h 8 s8) (V.lr h.g.1.2.2.2.2.2.2.2.2.2.2.2.2 Tryz.underlying35)
  ·refine V.s2 rfl fun f W h => ?_
   refine V.call en50 (V.args2 (V.ed h 0 39 rfl) (V.ed h 1 40 rfl)) (Calls.mono (over_nn (Q.neg (q + r)) (Q.m (q + r)) h.g.1.2.2.2.2.2.2.2.2.2.1 h.g.1.2.2.2.2.2.2.2.2.2.2.2.1 k9 kh hne Q.neg_zero (by rw [Q.sgn_z]; exact Q.add_fdiv q r)) ?_)
   rintro e W' ⟨A182, c183, rfl, k184, p185, hb⟩
   exact ⟨_, rfl, ⟨A182, c183, rfl, k184, (fun ad e => Nat.le_trans h.g.1.2.2.2.2.1.size (p185 ad e))⟩, hb⟩
  ·exact V.z1 rfl fun h => V.xl (V.eo h 6 s6) (V.lr h.g.1.2.2.2.2.2.2.2.2.1 Tryz.underlying35)
  ·exact V.z1 rfl fun h => V.xa (V.eo h 3 s3)
  ·exact V.z1 rfl fun h => V.xa (V.ed h 4 43 rfl)
  ·exact V.z1 rfl fun h => V.xl (V.ed h 5 44 rfl) (V.ld_mid (xs := [.bool false, Vs B' r.den e']) h.g.1.2.2.2.2.2.1 (by intro j hj; match j, hj with | 0, _ => rfl | 1, _ => rfl) Tryz.underlying35)
  ·exact V.z1 rfl fun h => V.xl (V.eo h 8 s8) (V.lr h.g.1.2.2.2.2.2.2.2.2.2.2.2.2 Tryz.underlying35)
  ·refine V.s2 rfl fun f W h => ?_
   refine V.call en50 (V.args2 (V.ed h 6 45 rfl) (V.ed h 7 46 rfl)) (Calls.mono (over_nn false (r.den / (Nat.gcd (Q.addN q r).natAbs (Nat.gcd q.den r.den))) h.g.1.2.2.2.1 h.g.1.2.2.2.2.2.2.2.2.2.2.2.1 k4 kh hne (fun _ => rfl) (Q.sgn_div hdv)) ?_)
   rintro e W' ⟨A186, c187, rfl, k188, p189, hb⟩
   exact ⟨_, rfl, ⟨A186, c187, rfl, k188, (fun ad e => Nat.le_trans h.g.1.2.2.2.2.1.size (p189 ad e))⟩, hb⟩
  ·refine V.s2 rfl fun f W h => ?_
   obtain ⟨A186, c187, a47, k8_0, p8_0⟩ := V.dp h 8 47 (by kernel_rfl) rfl
   refine V.call en56 (V.args2 (V.ed h 3 42 rfl) (V.ev_tmp rfl a47)) (Calls.mono (product_nn false ((q + r).den) h.g.1.2.2.2.2.2.2.2.1 k8_0 k5 k10 k12 (by rw [Q.add_den]; exact Q.sgn_mul_f _ _ _)) ?_)
   rintro e W' ⟨A190, c191, rfl, k192, p193, hb⟩
   exact ⟨_, rfl, ⟨A190, c191, rfl, k192, (fun ad e => Nat.le_trans h.g.1.2.2.2.2.1.size (p193 ad e))⟩, hb⟩
  ·refine V.s2 rfl fun f W h => ?_
   obtain ⟨A182, c183, a41, k2_0, p2_0⟩ := V.dp h 2 41 (by kernel_rfl) rfl
   obtain ⟨A190, c191, a48, k9_0, p9_0⟩ := V.dp h 9 48 (by kernel_rfl) rfl
   exact V.v2 (.agg #[.bool (Q.neg (q + r)), Vs A182 (Q.m (q + r)) c183, .bool false, Vs A190 ((q + r).den) c191]) (V.b2 (V.ev_tmp rfl a41) (V.ev_tmp rfl a48)) ⟨A182, c183, A190, c191, rfl, k2_0, k9_0, p2_0, p9_0⟩
  ·refine V.s2 rfl fun f W h => ?_
   obtain ⟨A194, c195, A196, c197, a49, k10_0, k10_1, p10_0, p10_1⟩ := V.dp h 10 49 (by kernel_rfl) rfl
   exact V.v2 (.agg #[.bool (Q.neg (q + r)), Vs A194 (Q.m (q + r)) c195, .bool false, Vs A196 ((q + r).den) c197]) (V.b1 (V.ev_tmp rfl a49)) ⟨A194, c195, A196, c197, rfl, k10_0, k10_1, p10_0, p10_1⟩
 intro f202 W203 e204
 clear h1 h2 h3 h4 hb bg121 bg122 r145 bg141 r168 bg164 r179 bg175
 obtain ⟨⟨h1, h2, h3, h4, hb, bg121, bg122, r145, bg141, r168, bg164, r179, bg175⟩, z_⟩ := e204.g
 obtain ⟨s0, s1, s4⟩ := V.e3 e204 s0 s1 s4
 obtain ⟨A198, c199, A200, c201, s50, r205, r206, n207, n208⟩ := V.eq e204 11 50 rfl
 clear e204 z_
 refine V.tsr (k := 12) rfl s4 s50 bg122 fun W209 hs b' => ?_
 replace h1 := hs.r16 h1
 replace h2 := hs.r16 h2
 replace h3 := hs.r16 h3
 replace h4 := hs.r16 h4
 replace hb := hs.bel hb mg122
 replace bg121 := hs.blk bg121 q121_122
 replace r145 := hs.r16 r145
 replace bg141 := hs.blk bg141 (Ne.symm q122_141)
 replace r168 := hs.r16 r168
 replace bg164 := hs.blk bg164 (Ne.symm q122_164)
 replace r179 := hs.r16 r179
 replace bg175 := hs.blk bg175 (Ne.symm q122_175)
 replace r205 := hs.r16 r205
 replace r206 := hs.r16 r206
 replace bg122 := b'
 clear hs b'
 refine V.t_done rfl (V.nx (V.ret ?_))
 refine V.leave_any (.inl rfl) (V.res_cell rfl rfl s4 (V.lr bg122 Tryz.underlying82 rfl (by kernel_rfl))) ?_
 exact ⟨A198, c199, A200, c201, rfl, r205, r206, n207, n208, hb⟩
end Go.Proofs.YtjbcalbbhomkjaaGreat
