/- PROVED: SurvivorLeaves answers true for every amount, every list of claims and every index, and leaves its arguments as they were. No condition. -/
import Derived.Test.YtjbcalbbhomkjaaGreatEZ4
set_option maxRecDepth 20000
set_option maxHeartbeats 2000000
namespace Go.Proofs.YtjbcalbbhomkjaaGreat
open Go.RowKit
attribute [local irreducible] RI.frame RI.act RI.Ob RI.Tail RI.out V.Wp V.Fn Oper.wp
theorem en63 : En 63 := en_ Tryz.func63
theorem en103 : En 103 := en_ Tryz.func103
theorem Eq16 {A B : Option Addr} {c d : Nat} {xs ys : List Nat} {w : World} (hl : Ls w 1 A xs.length c (xs.map U16)) (hm : Ls w 1 B ys.length d (ys.map U16)) :
    Calls Tryz.prog 103 #[.slice A xs.length c, .slice B ys.length d] w fun e w' => e = .returned (.bool (decide (xs = ys))) ∧ Below w.heap.size w w' := by
 have hmx : xs.length ≤ 9223372036854775807 := Nat.le_trans hl.cap hl.max
 refine V.nt Tryz.func103 rfl rfl fun f0 hf => ?_
 have s0 : f0 0 = .slice A xs.length c := hf 0 (by simp)
 have s1 : f0 1 = .slice B ys.length d := hf 1 (by simp)
 clear hf
 have hb := Below.refl w.heap.size w
 refine V.seq ?_
 refine V.reg 1 [V.E (.bool false)] [] (V.i hl (V.i hm hb)) ?_ ?_
 ·refine V.ac ?_ V.an
  ·exact V.z1 rfl fun h => V.xs rfl
 intro f1 W2 e3
 clear hl hm hb
 obtain ⟨⟨hl, hm, hb⟩, z_⟩ := e3.g
 obtain ⟨s0, s1⟩ := V.e2 e3 s0 s1
 have s4 := V.es e3 0 4 rfl
 clear e3 z_
 refine V.t_done rfl (V.nx (V.seq (V.seq ?_)))
 refine V.reg 5 [V.E (.slice A xs.length c), V.E (.int .i64 (xs.length : Int)), V.E (.slice B ys.length d), V.E (.int .i64 (ys.length : Int)), V.E (.bool ((xs.length : Int) != (ys.length : Int)))] [] (V.i hl (V.i hm hb)) ?_ ?_
 ·refine V.a5 ?_ ?_ ?_ ?_ ?_
  ·exact V.mo rfl 0 s0
  ·exact V.z1 rfl fun h => V.x_len (V.ed h 0 6 rfl)
  ·exact V.mo rfl 1 s1
  ·exact V.z1 rfl fun h => V.x_len (V.ed h 2 8 rfl)
  ·exact V.z1 rfl fun h => V.xb (V.ed h 1 7 rfl) (V.ed h 3 9 rfl)
 intro f4 W5 e6
 clear hl hm hb
 obtain ⟨⟨hl, hm, hb⟩, z_⟩ := e6.g
 obtain ⟨s0, s1, s4⟩ := V.e3 e6 s0 s1 s4
 have s10 := V.es e6 4 10 rfl
 clear e6 z_
 refine V.t_done rfl (V.nx ?_)
 cases hc7 : ((xs.length : Int) != (ys.length : Int))
 ·have s10_ : f4 10 = .bool false := s10.trans (by rw [hc7])
  refine V.cond_f (V.ev_tmp rfl s10_) ?_
  have hne := hc7
  have hle : xs.length = ys.length := by simp at hne; omega
  refine V.skip ?_
  refine V.nx (V.seq (V.seq ?_))
  refine V.reg 3 [V.E (.slice A xs.length c), V.E (.int .i64 (xs.length : Int)), V.E (.int .i64 0)] [] (V.i hl (V.i hm hb)) ?_ ?_
  ·refine V.a3 ?_ ?_ ?_
   ·exact V.mo rfl 0 s0
   ·exact V.z1 rfl fun h => V.x_len (V.ed h 0 11 rfl)
   ·exact V.z1 rfl fun h => V.xm rfl
  intro f8 W9 e10
  clear hl hm hb
  obtain ⟨⟨hl, hm, hb⟩, z_⟩ := e10.g
  obtain ⟨s0, s1, s4⟩ := V.e3 e10 s0 s1 s4
  have s12 := V.es e10 1 12 rfl
  have s13 := V.es e10 2 13 rfl
  clear e10 z_
  refine V.t_done rfl (V.nx (V.block ?_))
  refine V.loop (fun k f W => ∃ i : Nat, (k = xs.length - i ∧ (i ≤ xs.length) ∧ (xs.take i = ys.take i)) ∧ (f 0 = .slice A xs.length c ∧ f 1 = .slice B ys.length d ∧ f 12 = .int .i64 (xs.length : Int) ∧ f 13 = .int .i64 (i : Int)) ∧ (Below w.heap.size w W ∧ Ls W 1 A xs.length c (xs.map U16) ∧ Ls W 1 B ys.length d (ys.map U16))) (xs.length - 0) ⟨0, ⟨rfl, by omega, by simp⟩, ⟨s0, s1, s12, (s13.trans (by simp))⟩, ⟨hb, hl, hm⟩⟩ ?_
  clear hl hm hb s0 s1 s4 s12 s13
  rintro k13 f11 W12 ⟨i, ⟨hk17, hil, hq⟩, ⟨s0, s1, s12, s13⟩, ⟨r14, r15, r16⟩⟩
  refine V.seq ?_
  refine V.reg 1 [V.E (.bool (decide ((i : Int) < (xs.length : Int))))] [] (V.i r14 (V.i r15 r16)) ?_ ?_
  ·refine V.ac ?_ V.an
   ·exact V.z1 rfl fun h => V.xb (V.eo h 13 s13) (V.eo h 12 s12)
  intro f18 W19 e20
  clear r14 r15 r16
  obtain ⟨⟨r14, r15, r16⟩, z_⟩ := e20.g
  obtain ⟨s0, s1, s12, s13⟩ := V.e4 e20 s0 s1 s12 s13
  have s14 := V.es e20 0 14 rfl
  clear e20 z_
  refine V.t_done rfl (V.nx (V.seq ?_))
  cases hc21 : (decide ((i : Int) < (xs.length : Int)))
  ·have s14_ : f18 14 = .bool false := s14.trans (by rw [hc21])
   refine V.cond_f (V.ev_tmp rfl s14_) ?_
   have hi : i = xs.length := by have := of_decide_eq_false hc21; omega
   refine V.exit (V.tx (V.tx (V.bx (V.nx (V.seq ?_)))))
   refine V.reg 1 [V.E (.bool true)] [] (V.i r14 (V.i r15 r16)) ?_ ?_
   ·refine V.ac ?_ V.an
    ·exact V.z1 rfl fun h => V.xs rfl
   intro f22 W23 e24
   clear r14 r15 r16
   obtain ⟨⟨r14, r15, r16⟩, z_⟩ := e24.g
   obtain ⟨s0, s1⟩ := V.e2 e24 s0 s1
   have s4 := V.es e24 0 4 rfl
   clear e24 z_
   refine V.t_done rfl (V.nx (V.ret ?_))
   refine V.leave_any (.inl rfl) (V.res_tmp rfl rfl s4) ?_
   exact ⟨by rw [show decide (xs = ys) = true from by rw [decide_eq_true]; rw [hi, List.take_length, hle, List.take_length] at hq; exact hq], r14⟩
  ·have s14_ : f18 14 = .bool true := s14.trans (by rw [hc21])
   refine V.cond_t (V.ev_tmp rfl s14_) ?_
   have hi : i < xs.length := by have := of_decide_eq_true hc21; omega
   obtain ⟨p, mp, ex, ex_⟩ := V.at_map U16 (l := xs) (i := i) hi
   obtain ⟨q, mq, ey, ey_⟩ := V.at_map U16 (l := ys) (i := i) (by omega)
   refine V.skip ?_
   refine V.nx (V.seq (V.block (V.seq ?_)))
   refine V.reg 2 [V.E (.int .i64 (i : Int)), V.E (.int .i64 (i : Int))] [] (V.i r14 (V.i r15 r16)) ?_ ?_
   ·refine V.a2 ?_ ?_
    ·exact V.mo rfl 13 s13
    ·exact V.se rfl 0 15 rfl
   intro f25 W26 e27
   clear r14 r15 r16
   obtain ⟨⟨r14, r15, r16⟩, z_⟩ := e27.g
   obtain ⟨s0, s1, s12, s13⟩ := V.e4 e27 s0 s1 s12 s13
   have s5 := V.es e27 1 5 rfl
   clear e27 z_
   refine V.t_done rfl (V.nx (V.seq ?_))
   refine V.reg 9 [V.E (.slice A xs.length c), V.E (.int .i64 (i : Int)), V.E (.pointer (some ((adr A).add (i * 1 + 0)))), V.E (.int .u16 (p : Int)), V.E (.slice B ys.length d), V.E (.int .i64 (i : Int)), V.E (.pointer (some ((adr B).add (i * 1 + 0)))), V.E (.int .u16 (q : Int)), V.E (.bool ((p : Int) != (q : Int)))] [] (V.i r14 (V.i r15 r16)) ?_ ?_
   ·refine V.b8 ?_ ?_ ?_ ?_ ?_ ?_ ?_ ?_ (V.ac ?_ V.an)
    ·exact V.mo rfl 0 s0
    ·exact V.mo rfl 5 s5
    ·exact V.z1 rfl fun h => V.xi (i := i) h.g.1.2.1 ex_ (V.ed h 0 16 rfl) (V.ed h 1 17 rfl)
    ·exact V.z1 rfl fun h => V.xl (V.ed h 2 18 rfl) (V.ld_ls1 (i := i) (o := 0) h.g.1.2.1 ex_ rfl)
    ·exact V.mo rfl 1 s1
    ·exact V.mo rfl 5 s5
    ·exact V.z1 rfl fun h => V.xi (i := i) h.g.1.2.2 ey_ (V.ed h 4 20 rfl) (V.ed h 5 21 rfl)
    ·exact V.z1 rfl fun h => V.xl (V.ed h 6 22 rfl) (V.ld_ls1 (i := i) (o := 0) h.g.1.2.2 ey_ rfl)
    ·exact V.z1 rfl fun h => V.xb (V.ed h 3 19 rfl) (V.ed h 7 23 rfl)
   intro f28 W29 e30
   clear r14 r15 r16
   obtain ⟨⟨r14, r15, r16⟩, z_⟩ := e30.g
   obtain ⟨s0, s1, s12, s13⟩ := V.e4 e30 s0 s1 s12 s13
   have s24 := V.es e30 8 24 rfl
   clear e30 z_
   refine V.t_done rfl (V.nx ?_)
   cases hc31 : ((p : Int) != (q : Int))
   ·have s24_ : f28 24 = .bool false := s24.trans (by rw [hc31])
    refine V.cond_f (V.ev_tmp rfl s24_) ?_
    have hxy := hc31
    refine V.skip ?_
    refine V.bn (V.nx ?_)
    refine V.reg 2 [V.E (.int .i64 ((i : Int) + 1)), V.E (.int .i64 ((i : Int) + 1))] [] (V.i r14 (V.i r15 r16)) ?_ ?_
    ·refine V.a2 ?_ ?_
     ·refine V.s1 rfl fun f W h => ?_
      have hw32 : IntKind.i64.wrap ((i : Int) + 1) = (i : Int) + 1 := by exact IntWalk.i64_in _ (by omega)
      exact V.xb (V.eo h 13 s13) rfl ((by kernel_rfl : _ = Result.ok (.int .i64 (IntKind.i64.wrap ((i : Int) + 1))) _).trans (by rw [hw32]))
     ·exact V.me rfl 0 25 rfl
    intro f33 W34 e35
    clear r14 r15 r16
    obtain ⟨⟨r14, r15, r16⟩, z_⟩ := e35.g
    obtain ⟨s0, s1, s12⟩ := V.e3 e35 s0 s1 s12
    have s13 := V.es e35 1 13 rfl
    clear e35 z_
    refine V.t_done rfl ?_
    refine V.handed (xs.length - (i + 1)) (by have := hk17; omega) ⟨(i + 1), ⟨rfl, by omega, by rw [List.take_add_one, List.take_add_one, hq, ex, ey, show p = q by simp at hxy; omega]⟩, ⟨s0, s1, s12, (s13.trans (by simp))⟩, ⟨r14, r15, r16⟩⟩
   ·have s24_ : f28 24 = .bool true := s24.trans (by rw [hc31])
    refine V.cond_t (V.ev_tmp rfl s24_) ?_
    have hxy := hc31
    refine V.seq ?_
    refine V.reg 1 [V.E (.bool false)] [] (V.i r14 (V.i r15 r16)) ?_ ?_
    ·refine V.ac ?_ V.an
     ·exact V.z1 rfl fun h => V.xs rfl
    intro f36 W37 e38
    clear r14 r15 r16
    obtain ⟨⟨r14, r15, r16⟩, z_⟩ := e38.g
    obtain ⟨s0, s1, s12, s13⟩ := V.e4 e38 s0 s1 s12 s13
    have s4 := V.es e38 0 4 rfl
    clear e38 z_
    refine V.t_done rfl (V.nx (V.ret (V.br (V.tr (V.tr (V.br (V.tr ?_)))))))
    refine V.leave_any (.inl rfl) (V.res_tmp rfl rfl s4) ?_
    exact ⟨by rw [show decide (xs = ys) = false from by rw [decide_eq_false]; intro e; rw [e, ey] at ex; cases ex; simp at hxy], r14⟩
 ·have s10_ : f4 10 = .bool true := s10.trans (by rw [hc7])
  refine V.cond_t (V.ev_tmp rfl s10_) ?_
  have hne := hc7
  refine V.seq ?_
  refine V.reg 1 [V.E (.bool false)] [] (V.i hl (V.i hm hb)) ?_ ?_
  ·refine V.ac ?_ V.an
   ·exact V.z1 rfl fun h => V.xs rfl
  intro f39 W40 e41
  clear hl hm hb
  obtain ⟨⟨hl, hm, hb⟩, z_⟩ := e41.g
  obtain ⟨s0, s1⟩ := V.e2 e41 s0 s1
  have s4 := V.es e41 0 4 rfl
  clear e41 z_
  refine V.t_done rfl (V.nx (V.ret (V.tr ?_)))
  refine V.leave_any (.inl rfl) (V.res_tmp rfl rfl s4) ?_
  exact ⟨by rw [show decide (xs = ys) = false from by rw [decide_eq_false]; intro e; rw [e] at hne; simp at hne], hb⟩
theorem WSame {A B : Option Addr} {c d : Nat} {n0 n1 : Bool} {xs ys : List Nat} {w : World} (hl : Ls w 1 A xs.length c (xs.map U16)) (hm : Ls w 1 B ys.length d (ys.map U16)) :
    Calls Tryz.prog 63 #[.agg #[.bool n0, .slice A xs.length c], .agg #[.bool n1, .slice B ys.length d]] w fun e w' => e = .returned (.bool (decide (n0 = n1 ∧ xs = ys))) ∧ Below w.heap.size w w' := by
 refine V.nt Tryz.func63 rfl rfl fun f0 hf => ?_
 have s0 : f0 0 = .agg #[.bool n0, .slice A xs.length c] := hf 0 (by simp)
 have s1 : f0 1 = .agg #[.bool n1, .slice B ys.length d] := hf 1 (by simp)
 clear hf
 have hb := Below.refl w.heap.size w
 refine V.seq ?_
 refine V.reg 3 [V.Nb w 35 #[.bool n0, .slice A xs.length c], V.Nb w 35 #[.bool n1, .slice B ys.length d], V.E (.bool false)] [0, 1] (V.i hl (V.i hm hb)) ?_ ?_
 ·refine V.a3 ?_ ?_ ?_
  ·exact V.sn rfl fun f W h => V.x_box (V.eo h 0 s0)
  ·exact V.sn rfl fun f W h => V.x_box (V.eo h 1 s1)
  ·exact V.z1 rfl fun h => V.xs rfl
 have o_bel := hb.size
 have ob_hl := hl.blt
 have ob_hm := hm.blt
 intro f44 W45 e46
 clear hl hm hb
 obtain ⟨⟨hl, hm, hb⟩, z_⟩ := e46.g
 obtain ⟨s0, s1⟩ := V.e2 e46 s0 s1
 obtain ⟨g42, s2, bg42, lg42⟩ := V.eq e46 0 2 rfl
 obtain ⟨g43, s3, bg43, lg43⟩ := V.eq e46 1 3 rfl
 have s4 := V.es e46 2 4 rfl
 clear e46 z_
 clear o_bel ob_hl ob_hm
 refine V.t_done rfl (V.nx (V.seq ?_))
 refine V.reg 13 [V.E (Vp g42 0), V.E (.bool n0), V.E (Vp g43 0), V.E (.bool n1), V.E (.bool (n0 == n1)), V.E (.bool (n0 == n1)), (V.Gd (n0 == n1) (V.E (Vp g42 1))), (V.Gd (n0 == n1) (V.E (.slice A xs.length c))), (V.Gd (n0 == n1) (V.E (Vp g43 1))), (V.Gd (n0 == n1) (V.E (.slice B ys.length d))), (V.Gd (n0 == n1) (V.E (.bool (decide (xs = ys))))), V.E (.bool ((n0 == n1) && (decide (xs = ys)))), V.E (.bool ((n0 == n1) && (decide (xs = ys))))] [] (V.i hl (V.i hm (V.i hb (V.i bg42 bg43)))) ?_ ?_
 ·refine V.b8 ?_ ?_ ?_ ?_ ?_ ?_ ?_ ?_ (V.a5 ?_ ?_ ?_ ?_ ?_)
  ·exact V.z1 rfl fun h => V.xa (V.eo h 2 s2)
  ·exact V.z1 rfl fun h => V.xl (V.ed h 0 5 rfl) (V.lo h.g.1.2.2.2.1 rfl)
  ·exact V.z1 rfl fun h => V.xa (V.eo h 3 s3)
  ·exact V.z1 rfl fun h => V.xl (V.ed h 2 7 rfl) (V.lo h.g.1.2.2.2.2 rfl)
  ·exact V.z1 rfl fun h => V.xb (V.ed h 1 6 rfl) (V.ed h 3 8 rfl)
  ·exact V.me rfl 4 9 rfl
  ·exact V.gt 5 10 rfl rfl fun hp f W h => V.v1 (V.xa (V.eo h 2 s2))
  ·exact V.gt 5 10 rfl rfl fun hp f W h => V.v1 (V.xl (V.eg h 6 11 rfl hp) (V.lo h.g.1.2.2.2.1 rfl))
  ·exact V.gt 5 10 rfl rfl fun hp f W h => V.v1 (V.xa (V.eo h 3 s3))
  ·exact V.gt 5 10 rfl rfl fun hp f W h => V.v1 (V.xl (V.eg h 8 13 rfl hp) (V.lo h.g.1.2.2.2.2 rfl))
  ·refine V.gt 5 10 rfl rfl fun hp f W h => ?_
   refine V.call en103 (V.args2 (V.eg h 7 12 rfl hp) (V.eg h 9 14 rfl hp)) (Calls.mono (Eq16 h.g.1.1 h.g.1.2.1) ?_)
   rintro e W' ⟨rfl, hb⟩
   exact ⟨_, rfl, rfl, hb⟩
  ·refine V.s1 rfl fun f W h => ?_
   have d15 := V.dp h 10 15 (by kernel_rfl) rfl
   exact V.x_and (V.ed h 5 10 rfl) (fun e => V.ev_tmp rfl (V.gd_on d15 e)) rfl
  ·exact V.se rfl 11 16 rfl
 intro f47 W48 e49
 clear hl hm hb bg42 bg43
 obtain ⟨⟨hl, hm, hb, bg42, bg43⟩, z_⟩ := e49.g
 obtain ⟨s0, s1⟩ := V.e2 e49 s0 s1
 have s4 := V.es e49 12 4 rfl
 clear e49 z_
 refine V.t_done rfl (V.nx (V.ret ?_))
 refine V.leave_any (.inl rfl) (V.res_tmp rfl rfl s4) ?_
 exact ⟨by cases n0 <;> cases n1 <;> simp, hb⟩
theorem Same_s {x y : Fr} {w : World} (hx : Fr.ok w x) (hy : Fr.ok w y) :
    Calls Tryz.prog 26 #[x.v, y.v] w fun e w' => e = .returned (.bool (decide (x.q = y.q))) ∧ Below w.heap.size w w' := by
 refine V.nt Tryz.func26 rfl rfl fun f0 hf => ?_
 have s0 : f0 0 = x.v := hf 0 (by simp)
 have s1 : f0 1 = y.v := hf 1 (by simp)
 clear hf
 have hb := Below.refl w.heap.size w
 refine V.seq ?_
 refine V.reg 3 [V.Nb w 39 x.cs, V.Nb w 39 y.cs, V.E (.bool false)] [0, 1] (V.i hx (V.i hy hb)) ?_ ?_
 ·refine V.a3 ?_ ?_ ?_
  ·exact V.sn rfl fun f W h => V.x_box (V.eo h 0 s0)
  ·exact V.sn rfl fun f W h => V.x_box (V.eo h 1 s1)
  ·exact V.z1 rfl fun h => V.xs rfl
 have o_bel := hb.size
 intro f52 W53 e54
 clear hx hy hb
 obtain ⟨⟨hx, hy, hb⟩, z_⟩ := e54.g
 obtain ⟨s0, s1⟩ := V.e2 e54 s0 s1
 obtain ⟨g50, s2, bg50, lg50⟩ := V.eq e54 0 2 rfl
 obtain ⟨g51, s3, bg51, lg51⟩ := V.eq e54 1 3 rfl
 have s4 := V.es e54 2 4 rfl
 clear e54 z_
 clear o_bel
 refine V.t_done rfl (V.nx (V.seq ?_))
 refine V.reg 13 [V.E (Vp g50 0), V.E (.agg #[.bool (Q.neg x.q), Vs x.A (Q.m x.q) x.c]), V.E (Vp g51 0), V.E (.agg #[.bool (Q.neg y.q), Vs y.A (Q.m y.q) y.c]), V.E (.bool (decide ((Q.neg x.q) = (Q.neg y.q) ∧ (Lb.limbs (Q.m x.q)) = (Lb.limbs (Q.m y.q))))), V.E (.bool (decide ((Q.neg x.q) = (Q.neg y.q) ∧ (Lb.limbs (Q.m x.q)) = (Lb.limbs (Q.m y.q))))), (V.Gd (decide ((Q.neg x.q) = (Q.neg y.q) ∧ (Lb.limbs (Q.m x.q)) = (Lb.limbs (Q.m y.q)))) (V.E (Vp g50 2))), (V.Gd (decide ((Q.neg x.q) = (Q.neg y.q) ∧ (Lb.limbs (Q.m x.q)) = (Lb.limbs (Q.m y.q)))) (V.E (.agg #[.bool false, Vs x.A' x.q.den x.c']))), (V.Gd (decide ((Q.neg x.q) = (Q.neg y.q) ∧ (Lb.limbs (Q.m x.q)) = (Lb.limbs (Q.m y.q)))) (V.E (Vp g51 2))), (V.Gd (decide ((Q.neg x.q) = (Q.neg y.q) ∧ (Lb.limbs (Q.m x.q)) = (Lb.limbs (Q.m y.q)))) (V.E (.agg #[.bool false, Vs y.A' y.q.den y.c']))), (V.Gd (decide ((Q.neg x.q) = (Q.neg y.q) ∧ (Lb.limbs (Q.m x.q)) = (Lb.limbs (Q.m y.q)))) (V.E (.bool (decide (false = false ∧ (Lb.limbs x.q.den) = (Lb.limbs y.q.den)))))), V.E (.bool ((decide ((Q.neg x.q) = (Q.neg y.q) ∧ (Lb.limbs (Q.m x.q)) = (Lb.limbs (Q.m y.q)))) && (decide (false = false ∧ (Lb.limbs x.q.den) = (Lb.limbs y.q.den))))), V.E (.bool ((decide ((Q.neg x.q) = (Q.neg y.q) ∧ (Lb.limbs (Q.m x.q)) = (Lb.limbs (Q.m y.q)))) && (decide (false = false ∧ (Lb.limbs x.q.den) = (Lb.limbs y.q.den)))))] [] (V.i hx (V.i hy (V.i hb (V.i bg50 bg51)))) ?_ ?_
 ·refine V.b8 ?_ ?_ ?_ ?_ ?_ ?_ ?_ ?_ (V.a5 ?_ ?_ ?_ ?_ ?_)
  ·exact V.z1 rfl fun h => V.xa (V.eo h 2 s2)
  ·exact V.z1 rfl fun h => V.xl (V.ed h 0 5 rfl) (V.ld_mid (xs := [.bool (Q.neg x.q), Vs x.A (Q.m x.q) x.c]) h.g.1.2.2.2.1 (by intro j hj; match j, hj with | 0, _ => rfl | 1, _ => rfl) Tryz.underlying35)
  ·exact V.z1 rfl fun h => V.xa (V.eo h 3 s3)
  ·exact V.z1 rfl fun h => V.xl (V.ed h 2 7 rfl) (V.ld_mid (xs := [.bool (Q.neg y.q), Vs y.A (Q.m y.q) y.c]) h.g.1.2.2.2.2 (by intro j hj; match j, hj with | 0, _ => rfl | 1, _ => rfl) Tryz.underlying35)
  ·refine V.s2 rfl fun f W h => ?_
   refine V.call en63 (V.args2 (V.ed h 1 6 rfl) (V.ed h 3 8 rfl)) (Calls.mono (WSame (R16.ls h.g.1.1.n) (R16.ls h.g.1.2.1.n)) ?_)
   rintro e W' ⟨rfl, hb⟩
   exact ⟨_, rfl, rfl, hb⟩
  ·exact V.me rfl 4 9 rfl
  ·exact V.gt 5 10 rfl rfl fun hp f W h => V.v1 (V.xa (V.eo h 2 s2))
  ·exact V.gt 5 10 rfl rfl fun hp f W h => V.v1 (V.xl (V.eg h 6 11 rfl hp) (V.ld_mid (xs := [.bool false, Vs x.A' x.q.den x.c']) h.g.1.2.2.2.1 (by intro j hj; match j, hj with | 0, _ => rfl | 1, _ => rfl) Tryz.underlying35))
  ·exact V.gt 5 10 rfl rfl fun hp f W h => V.v1 (V.xa (V.eo h 3 s3))
  ·exact V.gt 5 10 rfl rfl fun hp f W h => V.v1 (V.xl (V.eg h 8 13 rfl hp) (V.ld_mid (xs := [.bool false, Vs y.A' y.q.den y.c']) h.g.1.2.2.2.2 (by intro j hj; match j, hj with | 0, _ => rfl | 1, _ => rfl) Tryz.underlying35))
  ·refine V.gt 5 10 rfl rfl fun hp f W h => ?_
   refine V.call en63 (V.args2 (V.eg h 7 12 rfl hp) (V.eg h 9 14 rfl hp)) (Calls.mono (WSame (R16.ls h.g.1.1.d) (R16.ls h.g.1.2.1.d)) ?_)
   rintro e W' ⟨rfl, hb⟩
   exact ⟨_, rfl, rfl, hb⟩
  ·refine V.s1 rfl fun f W h => ?_
   have d15 := V.dp h 10 15 (by kernel_rfl) rfl
   exact V.x_and (V.ed h 5 10 rfl) (fun e => V.ev_tmp rfl (V.gd_on d15 e)) rfl
  ·exact V.se rfl 11 16 rfl
 intro f55 W56 e57
 clear hx hy hb bg50 bg51
 obtain ⟨⟨hx, hy, hb, bg50, bg51⟩, z_⟩ := e57.g
 obtain ⟨s0, s1⟩ := V.e2 e57 s0 s1
 have s4 := V.es e57 12 4 rfl
 clear e57 z_
 refine V.t_done rfl (V.nx (V.ret ?_))
 refine V.leave_any (.inl rfl) (V.res_tmp rfl rfl s4) ?_
 exact ⟨by rw [same_q], hb⟩
end Go.Proofs.YtjbcalbbhomkjaaGreat
namespace Go.Proofs.YtjbcalbbhomkjaaGreat
def Dn (D : Nat) (q : Rat) : Prop := ∃ z : Int, q * ((D : Nat) : Rat) = (z : Rat)
theorem nat_mul (a b : Nat) : (((a * b : Nat)) : Rat) = ((a : Nat) : Rat) * ((b : Nat) : Rat) := by
 have := Rat.intCast_mul (a : Int) (b : Int)
 simp
theorem Dn.add {D : Nat} {a b : Rat} (h : Dn D a) (h' : Dn D b) : Dn D (a + b) := by
 obtain ⟨x, hx⟩ := h
 obtain ⟨y, hy⟩ := h'
 exact ⟨x + y, by rw [Rat.add_mul, hx, hy, Rat.intCast_add]⟩
theorem Dn.int (D : Nat) (z : Int) : Dn D (z : Rat) := ⟨z * (D : Int), by rw [Rat.intCast_mul]; rfl⟩
theorem Dn.mul {D E : Nat} {a b : Rat} (h : Dn D a) (h' : Dn E b) : Dn (D * E) (a * b) := by
 obtain ⟨x, hx⟩ := h
 obtain ⟨y, hy⟩ := h'
 exact ⟨x * y, by rw [nat_mul, Rat.intCast_mul, ← hx, ← hy]; grind⟩
theorem q_den (q : Rat) : q * ((q.den : Nat) : Rat) = ((q.num : Int) : Rat) := by
 have h := Rat.mkRat_self q
 rw [Rat.mkRat_eq_div] at h
 have h0 : ((q.den : Nat) : Rat) ≠ 0 := fun h => q.den_nz (Rat.natCast_eq_zero_iff.1 h)
 have h1 := Rat.div_mul_cancel (a := (q.num : Rat)) h0
 rw [h] at h1
 exact h1
theorem Dn.den (q : Rat) : Dn q.den q := ⟨q.num, q_den q⟩
theorem Dn.den_dvd {D : Nat} {q : Rat} (h : Dn D q) : q.den ∣ D := by
 obtain ⟨z, hz⟩ := h
 have hn' := q_den q
 have h1 : (((q.num * (D : Int) : Int)) : Rat) = ((z * (q.den : Int) : Int) : Rat) := by
  rw [Rat.intCast_mul, Rat.intCast_mul, ← hz, ← hn']
  show q * ((q.den : Nat) : Rat) * ((D : Nat) : Rat) = q * ((D : Nat) : Rat) * ((q.den : Nat) : Rat)
  grind
 have h2 := Rat.intCast_inj.1 h1
 have h3 : (q.den : Int) ∣ q.num * (D : Int) := ⟨z, by rw [h2, Int.mul_comm]⟩
 have h4 : q.den ∣ q.num.natAbs * D := by
  have := Int.natAbs_dvd_natAbs.2 h3
  simpa [Int.natAbs_mul] using this
 exact (Nat.Coprime.symm q.reduced).dvd_of_dvd_mul_left h4
theorem Dn.sz {D k : Nat} {q : Rat} {B : Int} (h : Dn D q) (h0 : 0 < D) (hD : D < 65536 ^ k) (hq : 0 ≤ q) (hB : q ≤ (B : Rat)) (hB3 : B < 65536 ^ 3) : Q.Sz (3 + k) q := by
 have hle : q.den ≤ D := Nat.le_of_dvd h0 h.den_dvd
 have hd : q.den < 65536 ^ k := Nat.lt_of_le_of_lt hle hD
 have hn : q.num ≤ B * (q.den : Int) := by
  have := (Rat.le_iff q (B : Rat)).1 hB
  rw [Rat.den_intCast, Rat.num_intCast] at this
  simpa using this
 have hn0 : 0 ≤ q.num := Rat.num_nonneg.2 hq
 have hB0 : 0 ≤ B := by
  have := Rat.le_trans hq hB
  exact Rat.intCast_nonneg.1 this
 refine ⟨?_, Nat.lt_of_lt_of_le hd (Nat.pow_le_pow_right (by decide) (by omega))⟩
 unfold Q.m
 have h1 : q.num.natAbs ≤ B.toNat * q.den := by
  have : (q.num.natAbs : Int) ≤ ((B.toNat * q.den : Nat) : Int) := by
   rw [Int.natCast_mul, Int.toNat_of_nonneg hB0, Int.natAbs_of_nonneg hn0]; exact hn
  exact Int.ofNat_le.1 this
 have h2 : B.toNat < 65536 ^ 3 := by omega
 rw [Nat.pow_add]
 exact Nat.lt_of_le_of_lt h1 (Nat.mul_lt_mul'' h2 hd)
def dprod : List Cl → Nat
 | [] => 1
 | x :: r => x.w.q.den * dprod r
end Go.Proofs.YtjbcalbbhomkjaaGreat
namespace Go.Proofs.YtjbcalbbhomkjaaGreat
open Go.RowKit
attribute [local irreducible] RI.frame RI.act RI.Ob RI.Tail RI.out V.Wp V.Fn Oper.wp
theorem cmp_gt {a b : Rat} (h : decide ((0 : Int) < Q.cmp a b) = true) : b ≤ a := by
  unfold Q.cmp at h
  split at h
  · simp at h
  · split at h
    · simp at h
    · grind
theorem en26 : En 26 := en_ Tryz.func26
def FOffA (A : Option Addr) (x : Fr) : Prop := ∀ ad, A = some ad → Fr.off ad.block x
theorem Acc.blt {W : World} {B : Nat} {T : TypeId} {k c : Nat} {A : Option Addr} {xs : List (List Value)} (h : Acc W B T k A c xs) : ∀ ad, A = some ad → ad.block < W.heap.size := by
  intro ad e
  exact (h.own.lt ad.block (by rw [e]; rfl)).2
theorem Rd.grownR {W W' : World} {sz m c : Nat} {A : Option Addr} {xs : List Value} {r : Option Nat} (h : Rd W sz A m c xs) (hg : W.grownBy W' r) (hne : 0 < m → ∀ ad, A = some ad → some ad.block ≠ r) : Rd W' sz A m c xs :=
  ⟨h.len, h.cap, h.max, fun hm => by
    obtain ⟨ad, e, hc⟩ := h.cells hm
    refine ⟨ad, e, fun j u hu => ?_⟩
    have h1 := hc j u hu
    have h2 := block_lt_of_cell h1
    rw [← h1]
    exact World.cell?_of_block (hg.block _ h2 (by rw [block_of_add]; exact hne hm ad e))⟩
theorem acc_append3 {P : Program} {W : World} {B : Nat} {T t ty : TypeId} {k c g1 : Nat} {z : Value} {A : Option Addr} {xs : List (List Value)} {T' : TypeId} {x : List Value}
    (h : Acc W B T k A c xs) (hx : Blk W g1 T' x.toArray) (hxl : x.length = k) (hroom : xs.length ≤ 100000) (ht : P.underlying t = some (.slice T)) (hi0 : (P.info? T).map (fun i => (i.size, decide (i.bytes ≤ 1000), i.zero)) = some (k, true, some z)) (hzs : z.cells.size = k ∧ 0 < k) (h1 : x.all (·.oneCell') = true) :
    ∃ A' c' W', (Builtin.append_ #[t, t] ty #[.slice A xs.length c, .slice (some ⟨g1, 0, none⟩) 1 1]).run P W = .ok (.slice A' (xs.length + 1) c') W' ∧ Acc W' B T k A' c' (xs ++ [x]) ∧ Below B W W' ∧ (∀ (g : Nat) (t' : TypeId) (cs : Array Value), T ≠ t' → Blk W g t' cs → Blk W' g t' cs) ∧ ∀ y : Fr, FOffA A y → Fr.ok W y → Fr.ok W' y ∧ FOffA A' y := by
  obtain ⟨hzs, hk⟩ := hzs
  obtain ⟨i, hi, hi1⟩ := Option.map_eq_some_iff.1 hi0
  obtain ⟨hs, hb, hz⟩ : i.size = k ∧ i.bytes ≤ 1000 ∧ i.zero = some z := by simpa using hi1
  have hr : Rd W k (some ⟨g1, 0, none⟩) 1 1 x := ⟨by omega, Nat.le_refl _, by omega, fun _ => ⟨_, rfl, fun j u hu => by rw [Addr.add_mid, hx.cell]; simpa using hu⟩⟩
  have hbb : i.bytes * (xs.length + 1) ≤ 140737488355328 := Nat.le_trans (Nat.mul_le_mul hb (show xs.length + 1 ≤ 100001 by omega)) (by decide)
  obtain ⟨A', c', W', hrun, h2, h3, h4⟩ := run_app_rd (P := P) W B t ty T i z k i.bytes ht hi hz hs rfl hzs hk _ _ _ h.own _ 1 1 x hr (fun u hu => (List.all_eq_true.1 h1) u hu) (by omega) hbb h.le
  refine ⟨A', c', W', hrun, ⟨?_, fun y hy => ?_, Nat.le_trans h.le h3.size⟩, Below.of_grown h3 h.le fun b e => (h.own.lt b e).1, fun g t' cs hne hb => hb.grown h3 (own_blk_ne h.own hb hne), fun y ho hy => ⟨⟨⟨?_, hy.n.ok⟩, ⟨?_, hy.d.ok⟩⟩, ?_⟩⟩
  · simpa using h2
  · rcases List.mem_append.1 hy with hy | hy
    · exact h.sz y hy
    · have : y = x := by simpa using hy
      rw [this]; exact hxl
  · refine hy.n.rd.grownR h3 fun h0 ad e => ?_
    cases A with
    | none => simp [Value.ownBlock]
    | some a => intro e2; simp [Value.ownBlock] at e2; exact (ho a rfl).1 h0 ad e e2
  · refine hy.d.rd.grownR h3 fun h0 ad e => ?_
    cases A with
    | none => simp [Value.ownBlock]
    | some a => intro e2; simp [Value.ownBlock] at e2; exact (ho a rfl).2 h0 ad e e2
  · intro ad e
    rcases h4 ad e with h5 | h5
    · cases A with
      | none => simp [Value.ownBlock] at h5
      | some a => simp [Value.ownBlock] at h5; rw [h5]; exact ho a rfl
    · exact hy.off (by omega)
theorem Mul_f {x y : Fr} {w : World} (hx : Fr.ok w x) (hy : Fr.ok w y) (z1 : Q.Sz 256 x.q) (z2 : Q.Sz 256 y.q) (z3 : Q.Sz 256 (x.q * y.q)) :
    Calls Tryz.prog 28 #[x.v, y.v] w fun e w' => ∃ z : Fr, e = .returned (.tuple #[z.v, .int .i64 0]) ∧ Fr.ok w' z ∧ z.q = x.q * y.q ∧ (∀ g, g < w.heap.size → Fr.off g z) ∧ Below w.heap.size w w' := by
  refine Calls.mono (Mul_q hx.n hx.d hy.n hy.d z1 z2 (by omega) (by omega) z3) ?_
  rintro e w' ⟨A, c, A', c', rfl, h1, h2, h3, h4, hb⟩
  exact ⟨⟨A, c, A', c', _⟩, rfl, ⟨h1, h2⟩, rfl, fun g hg => ⟨fun _ ad e => by have := h3 ad e; omega, fun _ ad e => by have := h4 ad e; omega⟩, hb⟩
def SI (f : Rat) (l ms : List Cl) : Prop := ∀ (j : Nat) (x y : Cl), l[j]? = some x → ms[j]? = some y → y.id = x.id ∧ y.cap = x.cap ∧ y.w.q = x.w.q * f
theorem SI.snoc {f : Rat} {l ms : List Cl} {i : Nat} {x : Cl} {z : Fr} (h : SI f l ms) (hm : ms.length = i) (hx : l[i]? = some x) (hz : z.q = x.w.q * f) : SI f l (ms ++ [⟨x.id, z, x.cap⟩]) := by
  intro j a b ha hb
  rcases Nat.lt_or_ge j ms.length with h1 | h1
  · rw [List.getElem?_append_left h1] at hb; exact h j a b ha hb
  · rw [List.getElem?_append_right h1] at hb
    have h2 := (List.getElem?_eq_some_iff.1 hb).1
    have h3 : j = ms.length := by simp at h2; omega
    subst h3
    rw [Nat.sub_self] at hb
    have h4 : (⟨x.id, z, x.cap⟩ : Cl) = b := by simpa using hb
    rw [hm, hx] at ha; cases ha
    rw [← h4]; exact ⟨rfl, rfl, hz⟩
theorem SI.scaled {f : Rat} {l ms : List Cl} (h : SI f l ms) (hl : ms.length = l.length) : Scaled f l ms := ⟨hl, fun j x y hx hy => ⟨(h j x y hx hy).2.1, (h j x y hx hy).2.2⟩⟩
theorem SI.valid {f : Rat} {l ms : List Cl} (h : SI f l ms) (hl : ms.length = l.length) (hf : 0 ≤ f) (hV : ValidC l) (hv : validL (ms.map Cl.raw) = true) : ValidC ms := by
  rw [validL_iff] at hv
  have hex : ∀ {j : Nat} {y : Cl}, ms[j]? = some y → ∃ x, l[j]? = some x := fun hy => ⟨_, List.getElem?_eq_getElem (by rw [← hl]; exact (List.getElem?_eq_some_iff.1 hy).1)⟩
  refine ⟨by rw [hl]; exact hV.n, fun y hy => ?_, fun j a b ha hb => ?_⟩
  · obtain ⟨j, hj⟩ := List.getElem?_of_mem hy
    obtain ⟨x, hx⟩ := hex hj
    obtain ⟨_, h2, h3⟩ := h j x y hx hj
    have gx := hV.g x (List.mem_of_getElem? hx)
    have hr := hv.r y.raw (List.mem_map_of_mem hy)
    unfold rightB at hr
    simp only [Bool.and_eq_true, decide_eq_true_eq, Bool.not_eq_true'] at hr
    obtain ⟨⟨⟨⟨⟨a1, a2⟩, a3⟩, a4⟩, a5⟩, a6⟩ := hr
    exact ⟨a1, a2, ⟨Q.lt_len (Int.ofNat_le.1 a3), Q.lt_len (Int.ofNat_le.1 a4)⟩, by rw [h3]; exact Rat.mul_nonneg gx.p hf⟩
  · obtain ⟨x, hx⟩ := hex ha
    obtain ⟨x', hx'⟩ := hex hb
    rw [(h j x a hx ha).1, (h (j + 1) x' b hx' hb).1]
    exact hV.s j x x' hx hx'
theorem Scaled.ev {f : Rat} {l k : List Cl} (h : Scaled f l k) (t : Rat) : ev t k = ev (t * f) l := by
  refine List.ext_getElem? fun j => ?_
  rcases Nat.lt_or_ge j l.length with hj | hj
  · obtain ⟨x, hx⟩ : ∃ x, l[j]? = some x := ⟨_, List.getElem?_eq_getElem hj⟩
    obtain ⟨y, hy⟩ : ∃ y, k[j]? = some y := ⟨_, List.getElem?_eq_getElem (by rw [h.len]; exact hj)⟩
    obtain ⟨e1, e2⟩ := h.at_ j x y hx hy
    rw [ev_at hx, ev_at hy, e1, e2]
    have : t * (x.w.q * f) = t * f * x.w.q := by grind
    rw [this]
  · rw [List.getElem?_eq_none (by rw [ev_length, h.len]; exact hj), List.getElem?_eq_none (by rw [ev_length]; exact hj)]
theorem Scaled.tot {f : Rat} (hf : f ≠ 0) {l k : List Cl} (h : Scaled f l k) (a : Int) : tot a k = tot a l := by unfold Go.Proofs.YtjbcalbbhomkjaaGreat.tot; rw [h.csum hf]
theorem PartsOf.scaled {a : Int} {f : Rat} {l k : List Cl} {t t' : Rat} {ys ys' : List Nat} {m m' : Nat} {rs rs' : List Int} (h : PartsOf a l t ys m rs) (h' : PartsOf a k t' ys' m' rs') (hS : Scaled f l k) (hf : 0 < f) (hg : ∀ x ∈ l, x.good) : rs = rs' := by
  have e := h.lev.uniq (hS.lev hf h'.lev) hg
  have he : Go.Proofs.YtjbcalbbhomkjaaGreat.ev t l = Go.Proofs.YtjbcalbbhomkjaaGreat.ev t' k := by rw [hS.ev, e]
  refine h.uniq h' he ?_
  have h1 := h.hm
  have h2 := h'.hm
  rw [hS.tot (by grind)] at h2
  rw [he] at h1
  omega
theorem all_snocC {p : Fr → Prop} {ms : List Cl} {y : Cl} (h : ∀ x ∈ ms, p x.w) (hy : p y.w) : ∀ x ∈ ms ++ [y], p x.w := fun x hx => by
  rcases List.mem_append.1 hx with hx | hx
  · exact h x hx
  · have : x = y := by simpa using hx
    rw [this]; exact hy
theorem en76 : En 76 := en_ Tryz.func76
theorem without1 {x : Cl} {p : Nat} {id : Int} {w : World} (hp : Blk w p 3 #[.int .i64 id]) :
    Calls Tryz.prog 76 #[x.v, Vp p 0] w fun e w' => e = .returned (.bool (x.id == id)) ∧ Below w.heap.size w w' := by
 refine V.nt Tryz.func76 rfl rfl fun f0 hf => ?_
 have s0 : f0 0 = x.v := hf 0 (by simp)
 have s1 : f0 1 = Vp p 0 := hf 1 (by simp)
 clear hf
 have hb := Below.refl w.heap.size w
 refine V.seq ?_
 refine V.reg 2 [V.Nb w 50 #[.int .i64 x.id, .bool (Q.neg x.w.q), Vs x.w.A (Q.m x.w.q) x.w.c, .bool false, Vs x.w.A' x.w.q.den x.w.c', .int .i64 x.cap], V.E (.bool false)] [0] (V.i hp hb) ?_ ?_
 ·refine V.a2 ?_ ?_
  ·exact V.sn rfl fun f W h => V.x_box (V.eo h 0 s0)
  ·exact V.z1 rfl fun h => V.xs rfl
 have o_p := hp.lt
 have o_bel := hb.size
 intro f2 W3 e4
 clear hp hb
 obtain ⟨⟨hp, hb⟩, z_⟩ := e4.g
 obtain ⟨s0, s1⟩ := V.e2 e4 s0 s1
 obtain ⟨g1, s2, bg1, lg1⟩ := V.eq e4 0 2 rfl
 have s3 := V.es e4 1 3 rfl
 clear e4 z_
 clear o_bel o_p
 refine V.t_done rfl (V.nx (V.seq ?_))
 refine V.reg 5 [V.E (Vp g1 0), V.E (.int .i64 x.id), V.E (.int .i64 id), V.E (.bool (x.id == id)), V.E (.bool (x.id == id))] [] (V.i hp (V.i hb bg1)) ?_ ?_
 ·refine V.a5 ?_ ?_ ?_ ?_ ?_
  ·exact V.z1 rfl fun h => V.xa (V.eo h 2 s2)
  ·exact V.z1 rfl fun h => V.xl (V.ed h 0 4 rfl) (V.lo h.g.1.2.2 rfl)
  ·exact V.z1 rfl fun h => V.xl (V.eo h 1 s1) (V.lo h.g.1.1 rfl)
  ·exact V.z1 rfl fun h => V.xb (V.ed h 1 5 rfl) (V.ed h 2 6 rfl)
  ·exact V.se rfl 3 7 rfl
 intro f5 W6 e7
 clear hp hb bg1
 obtain ⟨⟨hp, hb, bg1⟩, z_⟩ := e7.g
 replace s0 := V.e1 e7 s0
 have s3 := V.es e7 4 3 rfl
 clear e7 z_
 refine V.t_done rfl (V.nx (V.ret ?_))
 refine V.leave_any (.inl rfl) (V.res_tmp rfl rfl s3) ?_
 exact ⟨rfl, hb⟩
theorem index_s {A : Option Addr} {c : Nat} {l : List Cl} {p : Nat} {id : Int} {w : World} (hl : Ls w 6 A l.length c (l.map Cl.cells)) (hp : Blk w p 3 #[.int .i64 id]) :
    Calls Tryz.prog 75 #[.slice A l.length c, .func (.func 76) #[] #[Vp p 0]] w fun e w' => ((∃ (i : Nat) (x : Cl), e = .returned (.int .i64 (i : Int)) ∧ l[i]? = some x ∧ x.id = id ∧ ∀ (j : Nat) (y : Cl), j < i → l[j]? = some y → y.id ≠ id) ∨ (e = .returned (.int .i64 (-1)) ∧ ∀ (j : Nat) (y : Cl), l[j]? = some y → y.id ≠ id)) ∧ Below w.heap.size w w' := by
 have hmx : l.length ≤ 9223372036854775807 := Nat.le_trans hl.cap hl.max
 refine V.nt Tryz.func75 rfl rfl fun f0 hf => ?_
 have s0 : f0 0 = .slice A l.length c := hf 0 (by simp)
 have s1 : f0 1 = .func (.func 76) #[] #[Vp p 0] := hf 1 (by simp)
 clear hf
 have hb := Below.refl w.heap.size w
 have w_hl := hl
 have w_hp := hp
 refine V.seq ?_
 refine V.reg 1 [V.E (.int .i64 0)] [] (V.i hl (V.i hp hb)) ?_ ?_
 ·refine V.ac ?_ V.an
  ·exact V.z1 rfl fun h => V.xs rfl
 intro f8 W9 e10
 clear hl hp hb
 obtain ⟨⟨hl, hp, hb⟩, z_⟩ := e10.g
 obtain ⟨s0, s1⟩ := V.e2 e10 s0 s1
 have s4 := V.es e10 0 4 rfl
 clear e10 z_
 refine V.t_done rfl (V.nx (V.seq (V.seq ?_)))
 refine V.reg 3 [V.E (.slice A l.length c), V.E (.int .i64 (l.length : Int)), V.E (.int .i64 0)] [] (V.i hl (V.i hp hb)) ?_ ?_
 ·refine V.a3 ?_ ?_ ?_
  ·exact V.mo rfl 0 s0
  ·exact V.z1 rfl fun h => V.x_len (V.ed h 0 6 rfl)
  ·exact V.z1 rfl fun h => V.xm rfl
 intro f11 W12 e13
 clear hl hp hb
 obtain ⟨⟨hl, hp, hb⟩, z_⟩ := e13.g
 obtain ⟨s0, s1, s4⟩ := V.e3 e13 s0 s1 s4
 have s7 := V.es e13 1 7 rfl
 have s8 := V.es e13 2 8 rfl
 clear e13 z_
 refine V.t_done rfl (V.nx (V.block ?_))
 refine V.loop (fun k f W => ∃ i : Nat, (k = l.length - i ∧ (i ≤ l.length) ∧ (∀ (j : Nat) (y : Cl), j < i → l[j]? = some y → y.id ≠ id)) ∧ (f 0 = .slice A l.length c ∧ f 1 = .func (.func 76) #[] #[Vp p 0] ∧ f 7 = .int .i64 (l.length : Int) ∧ f 8 = .int .i64 (i : Int)) ∧ (Below w.heap.size w W ∧ Ls W 6 A l.length c (l.map Cl.cells) ∧ Blk W p 3 #[.int .i64 id])) (l.length - 0) ⟨0, ⟨rfl, by omega, by omega⟩, ⟨s0, s1, s7, (s8.trans (by simp))⟩, ⟨hb, hl, hp⟩⟩ ?_
 clear hl hp hb s0 s1 s4 s7 s8
 rintro k16 f14 W15 ⟨i, ⟨hk20, hil, hno⟩, ⟨s0, s1, s7, s8⟩, ⟨r17, r18, r19⟩⟩
 refine V.seq ?_
 refine V.reg 1 [V.E (.bool (decide ((i : Int) < (l.length : Int))))] [] (V.i r17 (V.i r18 r19)) ?_ ?_
 ·refine V.ac ?_ V.an
  ·exact V.z1 rfl fun h => V.xb (V.eo h 8 s8) (V.eo h 7 s7)
 intro f21 W22 e23
 clear r17 r18 r19
 obtain ⟨⟨r17, r18, r19⟩, z_⟩ := e23.g
 obtain ⟨s0, s1, s7, s8⟩ := V.e4 e23 s0 s1 s7 s8
 have s9 := V.es e23 0 9 rfl
 clear e23 z_
 refine V.t_done rfl (V.nx (V.seq ?_))
 cases hc24 : (decide ((i : Int) < (l.length : Int)))
 ·have s9_ : f21 9 = .bool false := s9.trans (by rw [hc24])
  refine V.cond_f (V.ev_tmp rfl s9_) ?_
  have hi : i = l.length := by have := of_decide_eq_false hc24; omega
  refine V.exit (V.tx (V.tx (V.bx (V.nx (V.seq ?_)))))
  refine V.reg 1 [V.E (.int .i64 (-1))] [] (V.i r17 (V.i r18 r19)) ?_ ?_
  ·refine V.ac ?_ V.an
   ·exact V.z1 rfl fun h => V.xs rfl
  intro f25 W26 e27
  clear r17 r18 r19
  obtain ⟨⟨r17, r18, r19⟩, z_⟩ := e27.g
  obtain ⟨s0, s1⟩ := V.e2 e27 s0 s1
  have s4 := V.es e27 0 4 rfl
  clear e27 z_
  refine V.t_done rfl (V.nx (V.ret ?_))
  refine V.leave_any (.inl rfl) (V.res_tmp rfl rfl s4) ?_
  exact ⟨.inr ⟨by rfl, fun j y hy => hno j y (by have := (List.getElem?_eq_some_iff.1 hy).1; omega) hy⟩, r17⟩
 ·have s9_ : f21 9 = .bool true := s9.trans (by rw [hc24])
  refine V.cond_t (V.ev_tmp rfl s9_) ?_
  have hi : i < l.length := by have := of_decide_eq_true hc24; omega
  obtain ⟨x, mx, ex, ex_⟩ := V.at_map Cl.cells (l := l) (i := i) hi
  refine V.skip ?_
  refine V.nx (V.seq (V.block (V.seq ?_)))
  refine V.reg 2 [V.E (.int .i64 (i : Int)), V.E (.int .i64 (i : Int))] [] (V.i r17 (V.i r18 r19)) ?_ ?_
  ·refine V.a2 ?_ ?_
   ·exact V.mo rfl 8 s8
   ·exact V.se rfl 0 10 rfl
  intro f28 W29 e30
  clear r17 r18 r19
  obtain ⟨⟨r17, r18, r19⟩, z_⟩ := e30.g
  obtain ⟨s0, s1, s7, s8⟩ := V.e4 e30 s0 s1 s7 s8
  have s5 := V.es e30 1 5 rfl
  clear e30 z_
  refine V.t_done rfl (V.nx (V.seq ?_))
  refine V.reg 6 [V.E (.func (.func 76) #[] #[Vp p 0]), V.E (.slice A l.length c), V.E (.int .i64 (i : Int)), V.E (.pointer (some ((adr A).add (i * 6 + 0)))), V.E (x.v), V.E (.bool (x.id == id))] [] (V.i r17 (V.i r18 r19)) ?_ ?_
  ·refine V.a6 ?_ ?_ ?_ ?_ ?_ ?_
   ·exact V.mo rfl 1 s1
   ·exact V.mo rfl 0 s0
   ·exact V.mo rfl 5 s5
   ·exact V.z1 rfl fun h => V.xi (i := i) h.g.1.2.1 ex_ (V.ed h 1 12 rfl) (V.ed h 2 13 rfl)
   ·exact V.z1 rfl fun h => V.xl (V.ed h 3 14 rfl) (V.ld_lsE (i := i) (o := 0) (cs := [.int .i64 x.id, .bool (Q.neg x.w.q), Vs x.w.A (Q.m x.w.q) x.w.c, .bool false, Vs x.w.A' x.w.q.den x.w.c', .int .i64 x.cap]) h.g.1.2.1 ex_ Tryz.underlying50)
   ·refine V.s2 rfl fun f W h => ?_
    refine V.callv (V.ed h 0 11 rfl) en76 (V.args1 (V.ed h 4 15 rfl)) (Calls.mono (without1 (x := x) h.g.1.2.2) ?_)
    rintro e W' ⟨rfl, hb⟩
    exact ⟨_, rfl, rfl, hb⟩
  intro f31 W32 e33
  clear r17 r18 r19
  obtain ⟨⟨r17, r18, r19⟩, z_⟩ := e33.g
  obtain ⟨s0, s1, s7, s8, s5⟩ := V.e5 e33 s0 s1 s7 s8 s5
  have s16 := V.es e33 5 16 rfl
  clear e33 z_
  refine V.t_done rfl (V.nx ?_)
  cases hc34 : (x.id == id)
  ·have s16_ : f31 16 = .bool false := s16.trans (by rw [hc34])
   refine V.cond_f (V.ev_tmp rfl s16_) ?_
   have hid := hc34
   have hne : x.id ≠ id := by simpa using hid
   refine V.skip ?_
   refine V.bn (V.nx ?_)
   refine V.reg 2 [V.E (.int .i64 ((i : Int) + 1)), V.E (.int .i64 ((i : Int) + 1))] [] (V.i r17 (V.i r18 r19)) ?_ ?_
   ·refine V.a2 ?_ ?_
    ·refine V.s1 rfl fun f W h => ?_
     have hw35 : IntKind.i64.wrap ((i : Int) + 1) = (i : Int) + 1 := by exact IntWalk.i64_in _ (by omega)
     exact V.xb (V.eo h 8 s8) rfl ((by kernel_rfl : _ = Result.ok (.int .i64 (IntKind.i64.wrap ((i : Int) + 1))) _).trans (by rw [hw35]))
    ·exact V.me rfl 0 18 rfl
   intro f36 W37 e38
   clear r17 r18 r19
   obtain ⟨⟨r17, r18, r19⟩, z_⟩ := e38.g
   obtain ⟨s0, s1, s7⟩ := V.e3 e38 s0 s1 s7
   have s8 := V.es e38 1 8 rfl
   clear e38 z_
   refine V.t_done rfl ?_
   refine V.handed (l.length - (i + 1)) (by have := hk20; omega) ⟨(i + 1), ⟨rfl, by omega, fun j y hj hy => by
            rcases Nat.lt_or_eq_of_le (Nat.le_of_lt_succ hj) with h | h
            · exact hno j y h hy
            · subst h; rw [ex] at hy; cases hy; exact hne⟩, ⟨s0, s1, s7, (s8.trans (by simp))⟩, ⟨r17, r18, r19⟩⟩
  ·have s16_ : f31 16 = .bool true := s16.trans (by rw [hc34])
   refine V.cond_t (V.ev_tmp rfl s16_) ?_
   have hid := hc34
   have heq : x.id = id := by simpa using hid
   refine V.seq ?_
   refine V.reg 2 [V.E (.int .i64 (i : Int)), V.E (.int .i64 (i : Int))] [] (V.i r17 (V.i r18 r19)) ?_ ?_
   ·refine V.a2 ?_ ?_
    ·exact V.mo rfl 5 s5
    ·exact V.se rfl 0 17 rfl
   intro f39 W40 e41
   clear r17 r18 r19
   obtain ⟨⟨r17, r18, r19⟩, z_⟩ := e41.g
   obtain ⟨s0, s1, s7, s8⟩ := V.e4 e41 s0 s1 s7 s8
   have s4 := V.es e41 1 4 rfl
   clear e41 z_
   refine V.t_done rfl (V.nx (V.ret (V.br (V.tr (V.tr (V.br (V.tr ?_)))))))
   refine V.leave_any (.inl rfl) (V.res_tmp rfl rfl s4) ?_
   exact ⟨.inl ⟨i, x, rfl, ex, heq, hno⟩, r17⟩
theorem setCell_row {W : World} {g : Nat} {t : TypeId} {cs : Array Value} (hb : Blk W g t cs) (i : Nat) (v : Value) : W.setCell ⟨g, i, none⟩ v = W.setRow g (cs.setIfInBounds i v) := by
  have hlt := hb.lt
  have hb' := hb
  unfold Blk at hb'
  unfold World.setCell World.setRow
  congr 1
  apply Array.ext
  · simp
  · intro k h1 h2
    simp only [Array.getElem_modify]
    by_cases hi : g = k
    · subst hi
      have : W.heap[g] = .cells cs t (0, 0) := by
        rw [Array.getElem?_eq_getElem hlt] at hb'; exact Option.some.inj hb'
      simp [this]
    · simp [hi]
theorem setRow_twice {W : World} {g : Nat} {t : TypeId} {cs : Array Value} (hb : Blk W g t cs) (a b : Array Value) : (W.setRow g a).setRow g b = W.setRow g b := by
  have hlt := hb.lt
  have hb' := hb
  unfold Blk at hb'
  unfold World.setRow
  congr 1
  apply Array.ext
  · simp
  · intro k h1 h2
    simp only [Array.getElem_modify]
    by_cases hi : g = k
    · subst hi
      have : W.heap[g] = .cells cs t (0, 0) := by
        rw [Array.getElem?_eq_getElem hlt] at hb'; exact Option.some.inj hb'
      simp [this]
    · simp [hi]
theorem st_c6 {P : Program} {W : World} {g : Nat} {t ty : TypeId} {a0 a1 a2 a3 a4 a5 b1 b2 b3 b4 : Value} (hb : Blk W g t #[a0, a1, a2, a3, a4, a5]) (hi : (P.info? ty).map (·.size) = some 4 := by kernel_rfl) (h1 : (#[b1, b2, b3, b4] : Array Value).all (·.oneCell') = true := by kernel_rfl) :
    (storeVar ty ⟨g, 1, none⟩ (.agg #[b1, b2, b3, b4])).run P W = .ok () (W.setRow g #[a0, b1, b2, b3, b4, a5]) := by
  have h := run_storeVar_mid (P := P) W g 1 ty #[b1, b2, b3, b4] (fun j hj => ⟨by rw [hb.cell]; have : j < 4 := hj; match j, this with | 0, _ => rfl | 1, _ => rfl | 2, _ => rfl | 3, _ => rfl, hb.frozen _⟩) hi h1
  rw [h]
  congr 1
  have e1 := setCell_row hb 1 b1
  have k1 := V.blk_same (cs' := #[a0, b1, a2, a3, a4, a5]) hb
  have e2 := (setCell_row k1 2 b2).trans (setRow_twice hb _ _)
  have k2 := V.blk_same (cs' := #[a0, b1, b2, a3, a4, a5]) hb
  have e3 := (setCell_row k2 3 b3).trans (setRow_twice hb _ _)
  have k3 := V.blk_same (cs' := #[a0, b1, b2, b3, a4, a5]) hb
  have e4 := (setCell_row k3 4 b4).trans (setRow_twice hb _ _)
  show (((W.setCell ⟨g, 1, none⟩ b1).setCell ⟨g, 2, none⟩ b2).setCell ⟨g, 3, none⟩ b3).setCell ⟨g, 4, none⟩ b4 = _
  rw [e1]
  show (((W.setRow g #[a0, b1, a2, a3, a4, a5]).setCell ⟨g, 2, none⟩ b2).setCell ⟨g, 3, none⟩ b3).setCell ⟨g, 4, none⟩ b4 = _
  rw [e2]
  show ((W.setRow g #[a0, b1, b2, a3, a4, a5]).setCell ⟨g, 3, none⟩ b3).setCell ⟨g, 4, none⟩ b4 = _
  rw [e3]
  show (W.setRow g #[a0, b1, b2, b3, a4, a5]).setCell ⟨g, 4, none⟩ b4 = _
  rw [e4]; rfl
theorem times_f {x y : Fr} {w : World} (hx : Fr.ok w x) (hy : Fr.ok w y) (z1 : Q.Sz 256 x.q) (z2 : Q.Sz 256 y.q) (z3 : Q.Sz 256 (x.q * y.q)) :
    Calls Tryz.prog 77 #[x.v, y.v] w fun e w' => ∃ z : Fr, e = .returned z.v ∧ Fr.ok w' z ∧ z.q = x.q * y.q ∧ (∀ g, g < w.heap.size → Fr.off g z) ∧ Below w.heap.size w w' := by
 refine V.nt Tryz.func77 rfl rfl fun f0 hf => ?_
 have s0 : f0 0 = x.v := hf 0 (by simp)
 have s1 : f0 1 = y.v := hf 1 (by simp)
 clear hf
 have hb := Below.refl w.heap.size w
 refine V.seq ?_
 refine V.reg 3 [V.Nb w 39 x.cs, V.Nb w 39 y.cs, V.Nb w 39 #[.bool false, .slice none 0 0, .bool false, .slice none 0 0]] [0, 1, 2] (V.i hx (V.i hy hb)) ?_ ?_
 ·refine V.a3 ?_ ?_ ?_
  ·exact V.sn rfl fun f W h => V.x_box (V.eo h 0 s0)
  ·exact V.sn rfl fun f W h => V.x_box (V.eo h 1 s1)
  ·exact V.sn rfl fun f W h => V.x_alloc
 have o_bel := hb.size
 intro f4 W5 e6
 clear hx hy hb
 obtain ⟨⟨hx, hy, hb⟩, z_⟩ := e6.g
 obtain ⟨s0, s1⟩ := V.e2 e6 s0 s1
 obtain ⟨g1, s2, bg1, lg1⟩ := V.eq e6 0 2 rfl
 obtain ⟨g2, s3, bg2, lg2⟩ := V.eq e6 1 3 rfl
 obtain ⟨g3, s4, bg3, lg3⟩ := V.eq e6 2 4 rfl
 have mg3 := Nat.le_trans o_bel lg3
 clear e6 z_
 clear o_bel
 refine V.t_done rfl (V.nx (V.seq ?_))
 refine V.reg 7 [V.E (x.v), V.E (y.v), (fun v W => ∃ z7 : Fr, v = .tuple #[z7.v, .int .i64 0] ∧ Fr.ok W z7 ∧ (z7.q = (x.q * y.q)) ∧ (∀ g, g < w.heap.size → Fr.off g z7)), (fun v W => ∃ z11 : Fr, v = .tuple #[z11.v, .int .i64 0] ∧ Fr.ok W z11 ∧ (z11.q = (x.q * y.q)) ∧ (∀ g, g < w.heap.size → Fr.off g z11)), (fun v W => ∃ z12 : Fr, v = z12.v ∧ Fr.ok W z12 ∧ (z12.q = (x.q * y.q)) ∧ (∀ g, g < w.heap.size → Fr.off g z12)), V.E (.int .i64 0), V.Nb W5 39 #[.bool false, .slice none 0 0, .bool false, .slice none 0 0]] [6] (V.i hx (V.i hy (V.i hb (V.i bg1 (V.i bg2 bg3))))) ?_ ?_
 ·refine V.a7 ?_ ?_ ?_ ?_ ?_ ?_ ?_
  ·exact V.z1 rfl fun h => V.xl (V.eo h 2 s2) (V.lr h.g.1.2.2.2.1 Tryz.underlying39)
  ·exact V.z1 rfl fun h => V.xl (V.eo h 3 s3) (V.lr h.g.1.2.2.2.2.1 Tryz.underlying39)
  ·refine V.s2 rfl fun f W h => ?_
   refine V.call en28 (V.args2 (V.ed h 0 8 rfl) (V.ed h 1 9 rfl)) (Calls.mono (Mul_f h.g.1.1 h.g.1.2.1 z1 z2 z3) ?_)
   rintro e W' ⟨z7, rfl, k8, e9, o10, hb⟩
   exact ⟨_, rfl, ⟨z7, rfl, k8, e9, fun g hg => o10 g (Nat.lt_of_lt_of_le hg h.g.1.2.2.1.size)⟩, hb⟩
  ·refine V.s2 rfl fun f W h => ?_
   obtain ⟨z7, a10, k2_0, p2_0, p2_1⟩ := V.dp h 2 10 (by kernel_rfl) rfl
   exact V.v2 (.tuple #[z7.v, .int .i64 0]) (V.xm (V.ev_tmp rfl a10)) ⟨z7, rfl, k2_0, p2_0, p2_1⟩
  ·refine V.s2 rfl fun f W h => ?_
   obtain ⟨z11, a7, k3_0, p3_0, p3_1⟩ := V.dp h 3 7 (by kernel_rfl) rfl
   exact V.v2 (z11.v) (V.xe (V.ev_tmp rfl a7)) ⟨z11, rfl, k3_0, p3_0, p3_1⟩
  ·refine V.s1 rfl fun f W h => ?_
   obtain ⟨z11, a7, k3_0, p3_0, p3_1⟩ := V.dp h 3 7 (by kernel_rfl) rfl
   exact V.xe (V.ev_tmp rfl a7)
  ·exact V.sn rfl fun f W h => V.x_alloc
 have o_g1 := bg1.lt
 have o_g2 := bg2.lt
 have o_g3 := bg3.lt
 have o_bel := hb.size
 intro f14 W15 e16
 clear hx hy hb bg1 bg2 bg3
 obtain ⟨⟨hx, hy, hb, bg1, bg2, bg3⟩, z_⟩ := e16.g
 obtain ⟨s0, s1, s4⟩ := V.e3 e16 s0 s1 s4
 obtain ⟨z12, s11, r17, n18, n19⟩ := V.eq e16 4 11 rfl
 have s12 := V.es e16 5 12 rfl
 obtain ⟨g13, s5, bg13, lg13⟩ := V.eq e16 6 5 rfl
 have mg13 := Nat.le_trans o_bel lg13
 have q1_13 : g1 ≠ g13 := by omega
 have q2_13 : g2 ≠ g13 := by omega
 have q3_13 : g3 ≠ g13 := by omega
 clear e16 z_
 clear o_bel o_g1 o_g2 o_g3
 refine V.tsr (k := 7) rfl s5 s11 bg13 fun W20 hs b' => ?_
 replace hx := hs.fr hx
 replace hy := hs.fr hy
 replace hb := hs.bel hb mg13
 replace bg1 := hs.blk bg1 q1_13
 replace bg2 := hs.blk bg2 q2_13
 replace bg3 := hs.blk bg3 q3_13
 replace r17 := hs.fr r17
 replace bg13 := b'
 clear hs b'
 refine V.t_val (k := 8) (v := .int .i64 0) (t := 6) rfl rfl rfl (by kernel_rfl) trivial (V.xs (V.ev_tmp rfl s12)) ?_
 intro f21 e22 u23
 replace s0 : f21 0 = x.v := (u23 0 (by decide)).trans s0
 replace s1 : f21 1 = y.v := (u23 1 (by decide)).trans s1
 replace s4 : f21 4 = Vp g3 0 := (u23 4 (by decide)).trans s4
 replace s11 : f21 11 = z12.v := (u23 11 (by decide)).trans s11
 replace s12 : f21 12 = .int .i64 0 := (u23 12 (by decide)).trans s12
 replace s5 : f21 5 = Vp g13 0 := (u23 5 (by decide)).trans s5
 have s6 := e22
 clear u23
 refine V.t_done rfl (V.nx (V.seq ?_))
 clear bg1 bg2
 refine V.reg 1 [V.E (z12.v)] [] (V.i hx (V.i hy (V.i hb (V.i bg3 (V.i r17 bg13))))) ?_ ?_
 ·refine V.ac ?_ V.an
  ·exact V.z1 rfl fun h => V.xl (V.eo h 5 s5) (V.lr h.g.1.2.2.2.2.2 Tryz.underlying39)
 intro f24 W25 e26
 clear hx hy hb bg3 r17 bg13
 obtain ⟨⟨hx, hy, hb, bg3, r17, bg13⟩, z_⟩ := e26.g
 obtain ⟨s0, s1, s4⟩ := V.e3 e26 s0 s1 s4
 have s13 := V.es e26 0 13 rfl
 clear e26 z_
 refine V.tsr (k := 1) rfl s4 s13 bg3 fun W27 hs b' => ?_
 replace hx := hs.fr hx
 replace hy := hs.fr hy
 replace hb := hs.bel hb mg3
 replace r17 := hs.fr r17
 replace bg13 := hs.blk bg13 (Ne.symm q3_13)
 replace bg3 := b'
 clear hs b'
 refine V.t_done rfl (V.nx (V.ret ?_))
 refine V.leave_any (.inl rfl) (V.res_cell rfl rfl s4 (V.lr bg3 Tryz.underlying39 rfl (by kernel_rfl))) ?_
 exact ⟨z12, rfl, r17, n18, n19, hb⟩
theorem en75 : En 75 := en_ Tryz.func75
theorem V.Sd.acc_ne {W W2 : World} {g : Nat} {t : TypeId} {cs cs' : Array Value} {B : Nat} {T : TypeId} {k c : Nat} {A : Option Addr} {xs : List (List Value)} (hs : V.Sd W W2 g t cs cs') (h : Acc W B T k A c xs) (hne : ∀ ad, A = some ad → ad.block ≠ g) : Acc W2 B T k A c xs := by
  rw [hs.eq]
  refine ⟨?_, h.sz, by rw [V.setRow_size]; exact h.le⟩
  obtain ⟨h1, h2⟩ := h.own
  refine ⟨h1, ?_⟩
  rcases h2 with h2 | ⟨g', cap, cur, hv, hgb, hh, r⟩
  · exact .inl h2
  · refine .inr ⟨g', cap, cur, hv, hgb, ?_, r⟩
    have hA : A = some ⟨g', 0, none⟩ := by injection hv
    rw [V.setRow_far (fun e => hne _ hA (by simpa using e))]; exact hh
def IxP (l : List Cl) (id r : Int) : Prop := (∃ (i : Nat) (x : Cl), r = (i : Int) ∧ l[i]? = some x ∧ x.id = id ∧ ∀ (j : Nat) (y : Cl), j < i → l[j]? = some y → y.id ≠ id) ∨ (r = -1 ∧ ∀ (j : Nat) (y : Cl), l[j]? = some y → y.id ≠ id)
theorem index_i {A : Option Addr} {c : Nat} {l : List Cl} {p : Nat} {id : Int} {w : World} (hl : Ls w 6 A l.length c (l.map Cl.cells)) (hp : Blk w p 3 #[.int .i64 id]) :
    Calls Tryz.prog 75 #[.slice A l.length c, .func (.func 76) #[] #[Vp p 0]] w fun e w' => ∃ r : Int, e = .returned (.int .i64 r) ∧ IxP l id r ∧ Below w.heap.size w w' := by
  refine Calls.mono (index_s hl hp) ?_
  rintro e w' ⟨⟨i, x, rfl, h⟩ | ⟨rfl, h⟩, hb⟩
  · exact ⟨_, rfl, .inl ⟨i, x, rfl, h⟩, hb⟩
  · exact ⟨_, rfl, .inr ⟨rfl, h⟩, hb⟩
def WI (at_ : Nat) (l ms : List Cl) : Prop := ∀ (j : Nat) (x y : Cl), l[if j < at_ then j else j + 1]? = some x → ms[j]? = some y → y.id = x.id ∧ y.cap = x.cap ∧ y.w.q = x.w.q
theorem WI.snoc {at_ : Nat} {l ms : List Cl} {i : Nat} {x : Cl} {z : Fr} (h : WI at_ l ms) (hm : ms.length = if at_ < i then i - 1 else i) (hne : i ≠ at_) (hx : l[i]? = some x) (hz : z.q = x.w.q) : WI at_ l (ms ++ [⟨x.id, z, x.cap⟩]) := by
  intro j a b ha hb
  rcases Nat.lt_or_ge j ms.length with h1 | h1
  · rw [List.getElem?_append_left h1] at hb; exact h j a b ha hb
  · rw [List.getElem?_append_right h1] at hb
    have h2 := (List.getElem?_eq_some_iff.1 hb).1
    have h3 : j = ms.length := by simp at h2; omega
    subst h3
    rw [Nat.sub_self] at hb
    have h4 : (⟨x.id, z, x.cap⟩ : Cl) = b := by simpa using hb
    have h5 : (if ms.length < at_ then ms.length else ms.length + 1) = i := by
      rw [hm]
      by_cases h6 : at_ < i
      · rw [if_pos h6, if_neg (by omega)]; omega
      · rw [if_neg h6, if_pos (by omega)]
    rw [h5, hx] at ha; cases ha
    rw [← h4]; exact ⟨rfl, rfl, hz⟩
theorem without_s {A : Option Addr} {c : Nat} {l : List Cl} {id : Int} {w : World} (hl : Ls w 6 A l.length c (l.map Cl.cells)) (hfr : ∀ x ∈ l, Fr.ok w x.w) (hV : ValidC l) :
    Calls Tryz.prog 36 #[.slice A l.length c, .int .i64 id] w fun e w' => (∃ (at_ : Nat) (x : Cl) (A1 : Option Addr) (c1 : Nat) (ms : List Cl), e = .returned (.tuple #[.slice A1 ms.length c1, .int .i64 0]) ∧ l[at_]? = some x ∧ x.id = id ∧ Ls w' 6 A1 ms.length c1 (ms.map Cl.cells) ∧ (∀ y ∈ ms, Fr.ok w' y.w) ∧ WI at_ l ms ∧ ms.length + 1 = l.length ∧ Below w.heap.size w w') ∨ (e = .returned (.tuple #[.slice none 0 0, .int .i64 6]) ∧ (∀ (j : Nat) (y : Cl), l[j]? = some y → y.id ≠ id) ∧ Below w.heap.size w w') := by
 have hmx : l.length ≤ 9223372036854775807 := Nat.le_trans hl.cap hl.max
 refine V.nt Tryz.func36 rfl rfl fun f0 hf => ?_
 have s0 : f0 0 = .slice A l.length c := hf 0 (by simp)
 have s1 : f0 1 = .int .i64 id := hf 1 (by simp)
 clear hf
 have hb := Below.refl w.heap.size w
 have w_hl := hl
 have w_hfr := hfr
 refine V.seq ?_
 refine V.reg 3 [V.Nb w 3 #[.int .i64 id], V.E (.slice none 0 0), V.E (.int .i64 0)] [0] (V.i hl (V.i hfr hb)) ?_ ?_
 ·refine V.a3 ?_ ?_ ?_
  ·exact V.sn rfl fun f W h => V.x_box (V.eo h 1 s1)
  ·exact V.z1 rfl fun h => V.xs rfl
  ·exact V.z1 rfl fun h => V.xs rfl
 have o_bel := hb.size
 have ob_hl := hl.blt
 intro f2 W3 e4
 clear hl hfr hb
 obtain ⟨⟨hl, hfr, hb⟩, z_⟩ := e4.g
 obtain ⟨s0, s1⟩ := V.e2 e4 s0 s1
 obtain ⟨g1, s3, bg1, lg1⟩ := V.eq e4 0 3 rfl
 have s4 := V.es e4 1 4 rfl
 have s5 := V.es e4 2 5 rfl
 clear e4 z_
 clear o_bel ob_hl
 refine V.t_done rfl (V.nx (V.seq (V.seq ?_)))
 refine V.reg 3 [V.E (.slice A l.length c), V.E (.bool true), V.E (.bool false)] [] (V.i hl (V.i hfr (V.i hb bg1))) ?_ ?_
 ·refine V.a3 ?_ ?_ ?_
  ·exact V.mo rfl 0 s0
  ·refine V.s2 rfl fun f W h => ?_
   refine V.call en30 (V.args1 (V.ed h 0 10 rfl)) (Calls.mono (Valid_t h.g.1.1 h.g.1.2.1 hV) ?_)
   rintro e W' ⟨rfl, hb⟩
   exact ⟨_, rfl, rfl, hb⟩
  ·exact V.z1 rfl fun h => V.x_un (V.ed h 1 11 rfl)
 intro f5 W6 e7
 clear hl hfr hb bg1
 obtain ⟨⟨hl, hfr, hb, bg1⟩, z_⟩ := e7.g
 obtain ⟨s0, s1, s3, s4, s5⟩ := V.e5 e7 s0 s1 s3 s4 s5
 have s12 := V.es e7 2 12 rfl
 clear e7 z_
 refine V.t_done rfl (V.nx ?_)
 refine V.cond_f (V.ev_tmp rfl s12) ?_
 refine V.skip ?_
 refine V.nx (V.seq ?_)
 refine V.reg 4 [V.E (.slice A l.length c), V.E (.func (.func 76) #[] #[Vp g1 0]), (fun v W => ∃ r8 : Int, v = .int .i64 r8 ∧ (IxP l id r8)), (fun v W => ∃ r10 : Int, v = .int .i64 r10 ∧ (IxP l id r10))] [] (V.i hl (V.i hfr (V.i hb bg1))) ?_ ?_
 ·refine V.a4 ?_ ?_ ?_ ?_
  ·exact V.mo rfl 0 s0
  ·exact V.z1 rfl fun h => V.x_makeFunc1 (V.eo h 3 s3)
  ·refine V.s2 rfl fun f W h => ?_
   refine V.call en75 (V.args2 (V.ed h 0 13 rfl) (V.ed h 1 14 rfl)) (Calls.mono (index_i h.g.1.1 h.g.1.2.2.2) ?_)
   rintro e W' ⟨r8, rfl, h9, hb⟩
   exact ⟨_, rfl, ⟨r8, rfl, h9⟩, hb⟩
  ·refine V.s2 rfl fun f W h => ?_
   obtain ⟨r8, a15, p2_0⟩ := V.dp h 2 15 (by kernel_rfl) rfl
   exact V.v2 (.int .i64 r8) (V.xs (V.ev_tmp rfl a15)) ⟨r8, rfl, p2_0⟩
 intro f11 W12 e13
 clear hl hfr hb bg1
 obtain ⟨⟨hl, hfr, hb, bg1⟩, z_⟩ := e13.g
 obtain ⟨s0, s1, s4, s5⟩ := V.e4 e13 s0 s1 s4 s5
 obtain ⟨r10, s6, n14⟩ := V.eq e13 3 6 rfl
 clear e13 z_
 refine V.t_done rfl (V.nx (V.seq (V.seq ?_)))
 clear bg1
 refine V.reg 2 [V.E (.int .i64 r10), V.E (.bool (decide (r10 < 0)))] [] (V.i hl (V.i hfr hb)) ?_ ?_
 ·refine V.a2 ?_ ?_
  ·exact V.mo rfl 6 s6
  ·exact V.z1 rfl fun h => V.xb (V.ed h 0 16 rfl) rfl
 intro f15 W16 e17
 clear hl hfr hb
 obtain ⟨⟨hl, hfr, hb⟩, z_⟩ := e17.g
 obtain ⟨s0, s1, s4, s5, s6⟩ := V.e5 e17 s0 s1 s4 s5 s6
 have s17 := V.es e17 1 17 rfl
 clear e17 z_
 refine V.t_done rfl (V.nx ?_)
 cases hc18 : (decide (r10 < 0))
 ·have s17_ : f15 17 = .bool false := s17.trans (by rw [hc18])
  refine V.cond_f (V.ev_tmp rfl s17_) ?_
  have hr0 := hc18
  obtain ⟨at_, x9, hr, hx9, hid9, _⟩ : ∃ (i : Nat) (x : Cl), r10 = (i : Int) ∧ l[i]? = some x ∧ x.id = id ∧ ∀ (j : Nat) (y : Cl), j < i → l[j]? = some y → y.id ≠ id := by
   rcases n14 with h | ⟨e, _⟩
   ·exact h
   ·rw [e] at hr0; simp at hr0
  have hat := (List.getElem?_eq_some_iff.1 hx9).1
  refine V.skip ?_
  refine V.nx (V.seq ?_)
  refine V.reg 1 [V.E (.slice none 0 0)] [] (V.i hl (V.i hfr hb)) ?_ ?_
  ·refine V.ac ?_ V.an
   ·exact V.z1 rfl fun h => V.xs rfl
  intro f19 W20 e21
  clear hl hfr hb
  obtain ⟨⟨hl, hfr, hb⟩, z_⟩ := e21.g
  obtain ⟨s0, s1, s4, s5, s6⟩ := V.e5 e21 s0 s1 s4 s5 s6
  have s7 := V.es e21 0 7 rfl
  clear e21 z_
  refine V.t_done rfl (V.nx (V.seq (V.seq ?_)))
  refine V.reg 3 [V.E (.slice A l.length c), V.E (.int .i64 (l.length : Int)), V.E (.int .i64 0)] [] (V.i hl (V.i hfr hb)) ?_ ?_
  ·refine V.a3 ?_ ?_ ?_
   ·exact V.mo rfl 0 s0
   ·exact V.z1 rfl fun h => V.x_len (V.ed h 0 18 rfl)
   ·exact V.z1 rfl fun h => V.xm rfl
  intro f22 W23 e24
  clear hl hfr hb
  obtain ⟨⟨hl, hfr, hb⟩, z_⟩ := e24.g
  obtain ⟨s0, s1, s4, s5, s6, s7⟩ := V.e6 e24 s0 s1 s4 s5 s6 s7
  have s18 := V.es e24 0 18 rfl
  have s19 := V.es e24 1 19 rfl
  have s20 := V.es e24 2 20 rfl
  clear e24 z_
  refine V.t_done rfl (V.nx (V.block ?_))
  have r25 : Acc W23 w.heap.size 50 6 none 0 (([] : List Cl).map Cl.cells) := Acc.nil hb.size
  have r26 : ∀ x ∈ ([] : List Cl), Fr.ok W23 x.w := by simp
  have one_sz : Q.Sz 256 (1 : Rat) := by have := sz_nat (k := 1) (by decide); exact Q.Sz.mono this (by decide)
  refine V.loop (fun k f W => ∃ i : Nat, ∃ ms : List Cl, ∃ A1 : Option Addr, ∃ c1 : Nat, (k = l.length - i ∧ (i ≤ l.length) ∧ (ms.length = if at_ < i then i - 1 else i) ∧ (WI at_ l ms) ∧ (∀ x ∈ ms, FOffA A1 x.w)) ∧ (f 0 = .slice A l.length c ∧ f 5 = .int .i64 0 ∧ f 6 = .int .i64 r10 ∧ f 7 = .slice A1 ((ms.map Cl.cells).length) c1 ∧ f 18 = .slice A l.length c ∧ f 19 = .int .i64 (l.length : Int) ∧ f 20 = .int .i64 (i : Int)) ∧ (Below w.heap.size w W ∧ Ls W 6 A l.length c (l.map Cl.cells) ∧ (∀ x ∈ l, Fr.ok W x.w) ∧ Acc W w.heap.size 50 6 A1 c1 (ms.map Cl.cells) ∧ (∀ x ∈ ms, Fr.ok W x.w))) (l.length - 0) ⟨0, ([] : List Cl), none, 0, ⟨rfl, by omega, by simp, (fun j x y hx hy => by simp at hy), by simp⟩, ⟨s0, s5, s6, (s7.trans (by simp)), s18, s19, (s20.trans (by simp))⟩, ⟨hb, hl, hfr, r25, r26⟩⟩ ?_
  clear hl hfr hb r25 r26 s0 s1 s4 s5 s6 s7 s18 s19 s20
  rintro k29 f27 W28 ⟨i, ms, A1, c1, ⟨hk35, hil, hml, hWI, hoff⟩, ⟨s0, s5, s6, s7, s18, s19, s20⟩, ⟨r30, r31, r32, r33, r34⟩⟩
  refine V.seq ?_
  refine V.reg 1 [V.E (.bool (decide ((i : Int) < (l.length : Int))))] [] (V.i r30 (V.i r31 (V.i r32 (V.i r33 r34)))) ?_ ?_
  ·refine V.ac ?_ V.an
   ·exact V.z1 rfl fun h => V.xb (V.eo h 20 s20) (V.eo h 19 s19)
  intro f36 W37 e38
  clear r30 r31 r32 r33 r34
  obtain ⟨⟨r30, r31, r32, r33, r34⟩, z_⟩ := e38.g
  obtain ⟨s0, s5, s6, s7, s18, s19, s20⟩ := V.e7 e38 s0 s5 s6 s7 s18 s19 s20
  have s21 := V.es e38 0 21 rfl
  clear e38 z_
  refine V.t_done rfl (V.nx (V.seq ?_))
  cases hc39 : (decide ((i : Int) < (l.length : Int)))
  ·have s21_ : f36 21 = .bool false := s21.trans (by rw [hc39])
   refine V.cond_f (V.ev_tmp rfl s21_) ?_
   have hi : i = l.length := by have := of_decide_eq_false hc39; omega
   refine V.exit (V.tx (V.tx (V.bx (V.nx (V.seq ?_)))))
   refine V.reg 3 [V.E (.slice A1 ((ms.map Cl.cells).length) c1), V.E (.slice A1 ((ms.map Cl.cells).length) c1), V.E (.int .i64 0)] [] (V.i r30 (V.i r31 (V.i r32 (V.i r33 r34)))) ?_ ?_
   ·refine V.a3 ?_ ?_ ?_
    ·exact V.mo rfl 7 s7
    ·exact V.se rfl 0 38 rfl
    ·exact V.z1 rfl fun h => V.xs rfl
   intro f40 W41 e42
   clear r30 r31 r32 r33 r34
   obtain ⟨⟨r30, r31, r32, r33, r34⟩, z_⟩ := e42.g
   replace s0 := V.e1 e42 s0
   have s4 := V.es e42 1 4 rfl
   have s5 := V.es e42 2 5 rfl
   clear e42 z_
   refine V.t_done rfl (V.nx (V.ret ?_))
   refine V.leave_any (.inl rfl) (V.res_tmp2 rfl rfl rfl s4 s5) ?_
   have hls := r33.ls
   rw [List.length_map] at hls
   exact .inl ⟨at_, x9, A1, c1, ms, by rw [List.length_map], hx9, hid9, hls, r34, hWI, by rw [hi] at hml; rw [if_pos hat] at hml; omega, r30⟩
  ·have s21_ : f36 21 = .bool true := s21.trans (by rw [hc39])
   refine V.cond_t (V.ev_tmp rfl s21_) ?_
   have hi : i < l.length := by have := of_decide_eq_true hc39; omega
   obtain ⟨xc, mx, ex, ex_⟩ := V.at_map Cl.cells (l := l) (i := i) hi
   have gx := hV.g xc mx
   have fx := r32 xc mx
   refine V.skip ?_
   refine V.nx (V.seq (V.block (V.seq ?_)))
   refine V.reg 5 [V.E (.int .i64 (i : Int)), V.E (.pointer (some ((adr A).add (i * 6 + 0)))), V.E (xc.v), V.Nb W37 50 #[.int .i64 0, .bool false, .slice none 0 0, .bool false, .slice none 0 0, .int .i64 0], V.E (.int .i64 (i : Int))] [3] (V.i r30 (V.i r31 (V.i r32 (V.i r33 (V.i r34 fx))))) ?_ ?_
   ·refine V.a5 ?_ ?_ ?_ ?_ ?_
    ·exact V.mo rfl 20 s20
    ·exact V.z1 rfl fun h => V.xi (i := i) h.g.1.2.1 ex_ (V.eo h 18 s18) (V.eo h 20 s20)
    ·exact V.z1 rfl fun h => V.xl (V.ed h 1 23 rfl) (V.ld_lsE (i := i) (o := 0) (cs := [.int .i64 xc.id, .bool (Q.neg xc.w.q), Vs xc.w.A (Q.m xc.w.q) xc.w.c, .bool false, Vs xc.w.A' xc.w.q.den xc.w.c', .int .i64 xc.cap]) h.g.1.2.1 ex_ Tryz.underlying50)
    ·exact V.sn rfl fun f W h => V.x_alloc
    ·exact V.se rfl 0 22 rfl
   have o_bel := r30.size
   have ob_r31 := r31.blt
   have ob_r33 := r33.blt
   intro f44 W45 e46
   clear r30 r31 r32 r33 r34 fx
   obtain ⟨⟨r30, r31, r32, r33, r34, fx⟩, z_⟩ := e46.g
   obtain ⟨s0, s5, s6, s7, s18, s19, s20⟩ := V.e7 e46 s0 s5 s6 s7 s18 s19 s20
   have s24 := V.es e46 2 24 rfl
   obtain ⟨g43, s9, bg43, lg43⟩ := V.eq e46 3 9 rfl
   have mg43 := Nat.le_trans o_bel lg43
   have q_r31_g43 : 0 < l.length → (adr A).block ≠ g43 := fun h => Nat.ne_of_lt (Nat.lt_of_lt_of_le (ob_r31 h) lg43)
   have q_r33_g43 : ∀ ad, A1 = some ad → ad.block ≠ g43 := fun ad e => Nat.ne_of_lt (Nat.lt_of_lt_of_le (ob_r33 ad e) lg43)
   have s8 := V.es e46 4 8 rfl
   clear e46 z_
   clear o_bel ob_r31 ob_r33
   refine V.tsr (k := 5) rfl s9 s24 bg43 fun W47 hs b' => ?_
   replace r30 := hs.bel r30 mg43
   replace r31 := hs.ls r31 q_r31_g43
   replace r32 := (fun x_0 hx_0 => hs.fr (r32 x_0 hx_0))
   replace r33 := hs.acc_ne r33 q_r33_g43
   replace r34 := (fun x_0 hx_0 => hs.fr (r34 x_0 hx_0))
   replace fx := hs.fr fx
   replace bg43 := b'
   clear hs b'
   refine V.t_done rfl (V.nx (V.seq ?_))
   refine V.reg 3 [V.E (.int .i64 (i : Int)), V.E (.int .i64 r10), V.E (.bool ((i : Int) != r10))] [] (V.i r30 (V.i r31 (V.i r32 (V.i r33 (V.i r34 (V.i fx bg43)))))) ?_ ?_
   ·refine V.a3 ?_ ?_ ?_
    ·exact V.mo rfl 8 s8
    ·exact V.mo rfl 6 s6
    ·exact V.z1 rfl fun h => V.xb (V.ed h 0 25 rfl) (V.ed h 1 26 rfl)
   intro f48 W49 e50
   clear r30 r31 r32 r33 r34 fx bg43
   obtain ⟨⟨r30, r31, r32, r33, r34, fx, bg43⟩, z_⟩ := e50.g
   obtain ⟨s0, s5, s6, s7, s18, s19, s20, s9⟩ := V.e8 e50 s0 s5 s6 s7 s18 s19 s20 s9
   have s27 := V.es e50 2 27 rfl
   clear e50 z_
   refine V.t_done rfl (V.nx ?_)
   cases hc51 : ((i : Int) != r10)
   ·have s27_ : f48 27 = .bool false := s27.trans (by rw [hc51])
    refine V.cond_f (V.ev_tmp rfl s27_) ?_
    have hne0 := hc51
    have hie : i = at_ := by have := hne0; rw [hr] at this; simp at this; omega
    refine V.skip ?_
    refine V.bn (V.nx ?_)
    clear bg43
    refine V.reg 2 [V.E (.int .i64 ((i : Int) + 1)), V.E (.int .i64 ((i : Int) + 1))] [] (V.i r30 (V.i r31 (V.i r32 (V.i r33 (V.i r34 fx))))) ?_ ?_
    ·refine V.a2 ?_ ?_
     ·refine V.s1 rfl fun f W h => ?_
      have hw52 : IntKind.i64.wrap ((i : Int) + 1) = (i : Int) + 1 := by exact IntWalk.i64_in _ (by omega)
      exact V.xb (V.eo h 20 s20) rfl ((by kernel_rfl : _ = Result.ok (.int .i64 (IntKind.i64.wrap ((i : Int) + 1))) _).trans (by rw [hw52]))
     ·exact V.me rfl 0 37 rfl
    intro f53 W54 e55
    clear r30 r31 r32 r33 r34 fx
    obtain ⟨⟨r30, r31, r32, r33, r34, fx⟩, z_⟩ := e55.g
    obtain ⟨s0, s5, s6, s7, s18, s19⟩ := V.e6 e55 s0 s5 s6 s7 s18 s19
    have s20 := V.es e55 1 20 rfl
    clear e55 z_
    refine V.t_done rfl ?_
    refine V.handed (l.length - (i + 1)) (by have := hk35; omega) ⟨(i + 1), ms, A1, c1, ⟨rfl, by omega, by split at hml <;> split <;> omega, hWI, hoff⟩, ⟨s0, s5, s6, s7, s18, s19, (s20.trans (by simp))⟩, ⟨r30, r31, r32, r33, r34⟩⟩
   ·have s27_ : f48 27 = .bool true := s27.trans (by rw [hc51])
    refine V.cond_t (V.ev_tmp rfl s27_) ?_
    have hne0 := hc51
    have hne : i ≠ at_ := by rintro rfl; rw [hr] at hne0; simp at hne0
    have hab := r33.blt
    refine V.seq ?_
    refine V.reg 5 [V.E (Vp g43 1), V.E (xc.w.v), (fun v W => ∃ z56 : Fr, v = z56.v ∧ Fr.ok W z56 ∧ (z56.q = (1 : Rat))), (fun v W => ∃ z59 : Fr, v = z59.v ∧ Fr.ok W z59 ∧ (z59.q = xc.w.q) ∧ (∀ g, g < W49.heap.size → Fr.off g z59)), V.E (Vp g43 1)] [] (V.i r30 (V.i r31 (V.i r32 (V.i r33 (V.i r34 (V.i fx bg43)))))) ?_ ?_
    ·refine V.a5 ?_ ?_ ?_ ?_ ?_
     ·exact V.z1 rfl fun h => V.xa (V.eo h 9 s9)
     ·exact V.z1 rfl fun h => V.xl (V.ed h 0 28 rfl) (V.ld_mid (xs := [.bool (Q.neg xc.w.q), Vs xc.w.A (Q.m xc.w.q) xc.w.c, .bool false, Vs xc.w.A' xc.w.q.den xc.w.c']) h.g.1.2.2.2.2.2.2 (by intro j hj; match j, hj with | 0, _ => rfl | 1, _ => rfl | 2, _ => rfl | 3, _ => rfl) Tryz.underlying39)
     ·refine V.s2 rfl fun f W h => ?_
      refine V.call en20 (V.args1 rfl) (Calls.mono (FromInt_s (x := 1) (by decide) (by decide)) ?_)
      rintro e W' ⟨z56, rfl, k57, e58, hb⟩
      exact ⟨_, rfl, ⟨z56, rfl, k57, e58⟩, hb⟩
     ·refine V.s2 rfl fun f W h => ?_
      obtain ⟨z56, a30, k2_0, p2_0⟩ := V.dp h 2 30 (by kernel_rfl) rfl
      refine V.call en77 (V.args2 (V.ed h 1 29 rfl) (V.ev_tmp rfl a30)) (Calls.mono (times_f h.g.1.2.2.2.2.2.1 k2_0 (gx.s.mono (by decide)) (by rw [p2_0]; exact one_sz) (by rw [p2_0, Rat.mul_one]; exact gx.s.mono (by decide))) ?_)
      rintro e W' ⟨z59, rfl, k60, e61, o62, hb⟩
      exact ⟨_, rfl, ⟨z59, rfl, k60, e61.trans (by rw [p2_0, Rat.mul_one]), fun g hg => o62 g (Nat.lt_of_lt_of_le hg h.g.2)⟩, hb⟩
     ·exact V.z1 rfl fun h => V.xa (V.eo h 9 s9)
    intro f63 W64 e65
    clear r30 r31 r32 r33 r34 fx bg43
    obtain ⟨⟨r30, r31, r32, r33, r34, fx, bg43⟩, z_⟩ := e65.g
    obtain ⟨s0, s5, s6, s7, s18, s19, s20, s9⟩ := V.e8 e65 s0 s5 s6 s7 s18 s19 s20 s9
    obtain ⟨z59, s31, r66, n67, n68⟩ := V.eq e65 3 31 rfl
    have hoz : FOffA A1 z59 := fun ad e => n68 ad.block (hab ad e)
    have s32 := V.es e65 4 32 rfl
    clear e65 z_
    refine V.t_st (k := 5) rfl (V.x_store (V.ev_tmp rfl s32) (V.ev_tmp rfl s31) (st_c6 bg43)) bg43 fun W69 hs b' => ?_
    replace r30 := hs.bel r30 mg43
    replace r31 := hs.ls r31 q_r31_g43
    replace r32 := (fun x_0 hx_0 => hs.fr (r32 x_0 hx_0))
    replace r33 := hs.acc_ne r33 q_r33_g43
    replace r34 := (fun x_0 hx_0 => hs.fr (r34 x_0 hx_0))
    replace fx := hs.fr fx
    replace r66 := hs.fr r66
    replace bg43 := b'
    clear hs b'
    refine V.t_done rfl (V.nx ?_)
    refine V.reg 3 [V.E (.slice A1 ((ms.map Cl.cells).length) c1), V.E (.agg #[.int .i64 xc.id, .bool (Q.neg z59.q), Vs z59.A (Q.m z59.q) z59.c, .bool false, Vs z59.A' z59.q.den z59.c', .int .i64 xc.cap]), (fun v W => ∃ g70 : Nat, v = .slice (some ⟨g70, 0, none⟩) 1 1 ∧ Blk W g70 50 #[.int .i64 xc.id, .bool (Q.neg z59.q), Vs z59.A (Q.m z59.q) z59.c, .bool false, Vs z59.A' z59.q.den z59.c', .int .i64 xc.cap] ∧ (w.heap.size ≤ g70))] [] (V.i r30 (V.i r31 (V.i r32 (V.i r33 (V.i r34 (V.i fx (V.i bg43 r66))))))) ?_ ?_
    ·refine V.a3 ?_ ?_ ?_
     ·exact V.mo rfl 7 s7
     ·exact V.z1 rfl fun h => V.xl (V.eo h 9 s9) (V.lr h.g.1.2.2.2.2.2.2.1 Tryz.underlying50)
     ·refine V.s2 rfl fun f W h => ?_
      exact V.valv (.slice (some ⟨W.heap.size, 0, none⟩) 1 1) (V.c1 (V.ed h 1 34 rfl)) ⟨⟨W.heap.size, rfl, Blk.new W 50 #[.int .i64 xc.id, .bool (Q.neg z59.q), Vs z59.A (Q.m z59.q) z59.c, .bool false, Vs z59.A' z59.q.den z59.c', .int .i64 xc.cap], h.g.1.1.size⟩, (Below.refl _ _).alloc (Nat.le_refl _) _⟩
    intro f71 W72 e73
    clear r30 r31 r32 r33 r34 fx bg43 r66
    obtain ⟨⟨r30, r31, r32, r33, r34, fx, bg43, r66⟩, z_⟩ := e73.g
    obtain ⟨s0, s5, s6, s7, s18, s19, s20⟩ := V.e7 e73 s0 s5 s6 s7 s18 s19 s20
    have s33 := V.es e73 0 33 rfl
    obtain ⟨g70, s35, r74, n75⟩ := V.eq e73 2 35 rfl
    clear e73 z_
    obtain ⟨A77, c78, W79, hr80, acc81, hw82, h983, h1084⟩ := acc_append3 (P := Tryz.prog) (t := 22) (ty := 22) (z := .agg #[.int .i64 0, .bool false, .slice none 0 0, .bool false, .slice none 0 0, .int .i64 0]) (x := [.int .i64 xc.id, .bool (Q.neg z59.q), Vs z59.A (Q.m z59.q) z59.c, .bool false, Vs z59.A' z59.q.den z59.c', .int .i64 xc.cap]) r33 r74 rfl (by rw [List.length_map]; have := hV.n; split at hml <;> omega) rfl (by kernel_rfl) (by decide) (by kernel_rfl)
    refine V.t_val (k := 3) (v := .slice A77 (((ms.map Cl.cells).length) + 1) c78) (t := 36) rfl rfl rfl (by kernel_rfl) trivial (V.x_append (V.ev_tmp rfl s33) (V.ev_tmp rfl s35) hr80) ?_
    intro f85 e86 u87
    replace s0 : f85 0 = .slice A l.length c := (u87 0 (by decide)).trans s0
    replace s5 : f85 5 = .int .i64 0 := (u87 5 (by decide)).trans s5
    replace s6 : f85 6 = .int .i64 r10 := (u87 6 (by decide)).trans s6
    replace s7 : f85 7 = .slice A1 ((ms.map Cl.cells).length) c1 := (u87 7 (by decide)).trans s7
    replace s18 : f85 18 = .slice A l.length c := (u87 18 (by decide)).trans s18
    replace s19 : f85 19 = .int .i64 (l.length : Int) := (u87 19 (by decide)).trans s19
    replace s20 : f85 20 = .int .i64 (i : Int) := (u87 20 (by decide)).trans s20
    replace s33 : f85 33 = .slice A1 ((ms.map Cl.cells).length) c1 := (u87 33 (by decide)).trans s33
    replace s35 : f85 35 = .slice (some ⟨g70, 0, none⟩) 1 1 := (u87 35 (by decide)).trans s35
    have s36 := e86
    clear u87
    obtain ⟨r88, hoz2⟩ := h1084 z59 hoz r66
    have r89 : ∀ x ∈ ms, Fr.ok W79 x.w := fun x hx => (h1084 x.w (hoff x hx) (r34 x hx)).1
    have hoff2 : ∀ x ∈ ms, FOffA A77 x.w := fun x hx => (h1084 x.w (hoff x hx) (r34 x hx)).2
    replace r30 : Below w.heap.size w W79 := r30.trans hw82
    replace r31 : Ls W79 6 A l.length c (l.map Cl.cells) := (V.Stb.ls : V.Stb fun W => Ls W 6 A l.length c (l.map Cl.cells)) _ _ w_hl r30
    replace r32 : (∀ x ∈ l, Fr.ok W79 x.w) := ((V.Stb.all fun _ => V.Stb.fr) : V.Stb fun W => (∀ x ∈ l, Fr.ok W x.w)) _ _ w_hfr r30
    clear r33
    clear r34
    clear fx
    clear bg43
    clear r66
    clear r74
    refine V.t_val (k := 4) (v := .slice A77 (((ms.map Cl.cells).length) + 1) c78) (t := 7) rfl rfl rfl (by kernel_rfl) trivial (V.xs (V.ev_tmp rfl s36)) ?_
    intro f90 e91 u92
    replace s0 : f90 0 = .slice A l.length c := (u92 0 (by decide)).trans s0
    replace s5 : f90 5 = .int .i64 0 := (u92 5 (by decide)).trans s5
    replace s6 : f90 6 = .int .i64 r10 := (u92 6 (by decide)).trans s6
    replace s18 : f90 18 = .slice A l.length c := (u92 18 (by decide)).trans s18
    replace s19 : f90 19 = .int .i64 (l.length : Int) := (u92 19 (by decide)).trans s19
    replace s20 : f90 20 = .int .i64 (i : Int) := (u92 20 (by decide)).trans s20
    replace s33 : f90 33 = .slice A1 ((ms.map Cl.cells).length) c1 := (u92 33 (by decide)).trans s33
    replace s35 : f90 35 = .slice (some ⟨g70, 0, none⟩) 1 1 := (u92 35 (by decide)).trans s35
    replace s36 : f90 36 = .slice A77 (((ms.map Cl.cells).length) + 1) c78 := (u92 36 (by decide)).trans s36
    have s7 := e91
    clear u92
    refine V.t_done rfl (V.bn (V.nx ?_))
    refine V.reg 2 [V.E (.int .i64 ((i : Int) + 1)), V.E (.int .i64 ((i : Int) + 1))] [] (V.i r30 (V.i r31 (V.i r32 (V.i r88 (V.i r89 acc81))))) ?_ ?_
    ·refine V.a2 ?_ ?_
     ·refine V.s1 rfl fun f W h => ?_
      have hw93 : IntKind.i64.wrap ((i : Int) + 1) = (i : Int) + 1 := by exact IntWalk.i64_in _ (by omega)
      exact V.xb (V.eo h 20 s20) rfl ((by kernel_rfl : _ = Result.ok (.int .i64 (IntKind.i64.wrap ((i : Int) + 1))) _).trans (by rw [hw93]))
     ·exact V.me rfl 0 37 rfl
    intro f94 W95 e96
    clear r30 r31 r32 r88 r89 acc81
    obtain ⟨⟨r30, r31, r32, r88, r89, acc81⟩, z_⟩ := e96.g
    obtain ⟨s0, s5, s6, s7, s18, s19⟩ := V.e6 e96 s0 s5 s6 s7 s18 s19
    have s20 := V.es e96 1 20 rfl
    clear e96 z_
    refine V.t_done rfl ?_
    have r97 : Acc W95 w.heap.size 50 6 A77 c78 ((ms ++ [(⟨xc.id, z59, xc.cap⟩ : Cl)]).map Cl.cells) := by rw [List.map_append]; exact acc81
    have r98 : ∀ x ∈ (ms ++ [(⟨xc.id, z59, xc.cap⟩ : Cl)]), Fr.ok W95 x.w := all_snocC (p := fun q => Fr.ok W95 q) (y := (⟨xc.id, z59, xc.cap⟩ : Cl)) r89 r88
    refine V.handed (l.length - (i + 1)) (by have := hk35; omega) ⟨(i + 1), (ms ++ [(⟨xc.id, z59, xc.cap⟩ : Cl)]), A77, c78, ⟨rfl, by omega, by rw [List.length_append, List.length_singleton]; split at hml <;> split <;> omega, hWI.snoc hml hne ex n67, all_snocC (p := FOffA A77) (y := (⟨xc.id, z59, xc.cap⟩ : Cl)) hoff2 hoz2⟩, ⟨s0, s5, s6, (s7.trans (by simp)), s18, s19, (s20.trans (by simp))⟩, ⟨r30, r31, r32, r97, r98⟩⟩
 ·have s17_ : f15 17 = .bool true := s17.trans (by rw [hc18])
  refine V.cond_t (V.ev_tmp rfl s17_) ?_
  have hr0 := hc18
  refine V.seq ?_
  refine V.reg 2 [V.E (.slice none 0 0), V.E (.int .i64 6)] [] (V.i hl (V.i hfr hb)) ?_ ?_
  ·refine V.a2 ?_ ?_
   ·exact V.z1 rfl fun h => V.xs rfl
   ·exact V.z1 rfl fun h => V.xs rfl
  intro f99 W100 e101
  clear hl hfr hb
  obtain ⟨⟨hl, hfr, hb⟩, z_⟩ := e101.g
  obtain ⟨s0, s1, s6⟩ := V.e3 e101 s0 s1 s6
  have s4 := V.es e101 0 4 rfl
  have s5 := V.es e101 1 5 rfl
  clear e101 z_
  refine V.t_done rfl (V.nx (V.ret (V.tr ?_)))
  refine V.leave_any (.inl rfl) (V.res_tmp2 rfl rfl rfl s4 s5) ?_
  have hno : ∀ (j : Nat) (y : Cl), l[j]? = some y → y.id ≠ id := by
   rcases n14 with ⟨i, x, e, _⟩ | ⟨_, h⟩
   ·rw [e] at hr0; have := of_decide_eq_true hr0; omega
   ·exact h
  exact .inr ⟨rfl, hno, hb⟩
theorem en36 : En 36 := en_ Tryz.func36
theorem V.join {P : Program} {n : Nat} {ds : List Deferred} {Q : Exit → Act → World → Prop} {f : Nat → Value} {W : World} {x y : Code} (R : (Nat → Value) → World → Prop) (h : V.Wp P x n ds (Exit.then (fun a w => ∃ f', a = RI.act n ds f' ∧ R f' w) Q) f W) (k : ∀ f W, R f W → V.Wp P y n ds Q f W) : V.Wp P (.seq x y) n ds Q f W := by
  unfold V.Wp at h ⊢
  refine wp_seq (wp_mono h ?_)
  intro e a w h
  cases e with
  | normal => obtain ⟨f', rfl, hR⟩ := h; have hk := k f' w hR; unfold V.Wp at hk; exact hk
  | _ => exact h
theorem ValidC.lt {l : List Cl} (h : ValidC l) : ∀ {k j : Nat} {a b : Cl}, j < k → l[j]? = some a → l[k]? = some b → a.id < b.id := by
  intro k
  induction k with
  | zero => intro j a b hj; omega
  | succ k ih =>
    intro j a b hj ha hb
    have hk := (List.getElem?_eq_some_iff.1 hb).1
    obtain ⟨m, hm⟩ : ∃ m, l[k]? = some m := ⟨_, List.getElem?_eq_getElem (by omega)⟩
    have h1 := h.s k m b hm hb
    rcases Nat.lt_or_ge j k with h2 | h2
    · exact Int.lt_trans (ih h2 ha hm) h1
    · have : j = k := by omega
      subst this; rw [ha] at hm; cases hm; exact h1
theorem WI.get {at_ : Nat} {l ms : List Cl} (hl : ms.length + 1 = l.length) {j : Nat} {y : Cl} (hy : ms[j]? = some y) : ∃ x, l[if j < at_ then j else j + 1]? = some x := by
  have := (List.getElem?_eq_some_iff.1 hy).1
  exact ⟨_, List.getElem?_eq_getElem (by split <;> omega)⟩
theorem WI.valid {at_ : Nat} {l ms : List Cl} (h : WI at_ l ms) (hl : ms.length + 1 = l.length) (hV : ValidC l) : ValidC ms := by
  refine ⟨by have := hV.n; omega, fun y hy => ?_, fun j a b ha hb => ?_⟩
  · obtain ⟨j, hj⟩ := List.getElem?_of_mem hy
    obtain ⟨x, hx⟩ := WI.get (at_ := at_) hl hj
    obtain ⟨h1, h2, h3⟩ := h j x y hx hj
    have gx := hV.g x (List.mem_of_getElem? hx)
    exact ⟨by rw [h2]; exact gx.b0, by rw [h2]; exact gx.b1, by rw [h3]; exact gx.s, by rw [h3]; exact gx.p⟩
  · obtain ⟨x, hx⟩ := WI.get (at_ := at_) hl ha
    obtain ⟨x', hx'⟩ := WI.get (at_ := at_) hl hb
    rw [(h j x a hx ha).1, (h (j + 1) x' b hx' hb).1]
    exact hV.lt (by split <;> split <;> omega) hx hx'
theorem WI.gone {at_ : Nat} {l ms : List Cl} (h : WI at_ l ms) (hl : ms.length + 1 = l.length) (hV : ValidC l) {x : Cl} (hx : l[at_]? = some x) : ∀ (j : Nat) (y : Cl), ms[j]? = some y → y.id ≠ x.id := by
  intro j y hy e
  obtain ⟨x', hx'⟩ := WI.get (at_ := at_) hl hy
  rw [(h j x' y hx' hy).1] at e
  by_cases hj : j < at_
  · rw [if_pos hj] at hx'; have := hV.lt hj hx' hx; omega
  · rw [if_neg hj] at hx'; have := hV.lt (show at_ < j + 1 by omega) hx hx'; omega
theorem ValidC.inj {l : List Cl} (hV : ValidC l) {i j : Nat} {x y : Cl} (hx : l[i]? = some x) (hy : l[j]? = some y) (e : x.id = y.id) : i = j := by
  rcases Nat.lt_trichotomy i j with h | h | h
  · have := hV.lt h hx hy; omega
  · exact h
  · have := hV.lt h hy hx; omega
theorem WI.scaled {at_ : Nat} {l ms : List Cl} (h : WI at_ l ms) (hl : ms.length + 1 = l.length) (ha : at_ < l.length) : Scaled 1 (l.eraseIdx at_) ms := by
  refine ⟨by rw [List.length_eraseIdx, if_pos ha]; omega, fun j x y hx hy => ?_⟩
  rw [List.getElem?_eraseIdx] at hx
  have hx2 : l[if j < at_ then j else j + 1]? = some x := by rw [← hx]; split <;> rfl
  obtain ⟨_, h2, h3⟩ := h j x y hx2 hy
  exact ⟨h2, by rw [h3, Rat.mul_one]⟩
theorem WI.parts {at_ : Nat} {l ms : List Cl} {a : Int} {t u : Rat} (h : WI at_ l ms) (hl : ms.length + 1 = l.length) (ha : at_ < l.length) (hg : ∀ x ∈ l, x.good) (ht : IsLev a l t) (hu : IsLev a ms u) {j : Nat} {x y : Cl} (hx : l[if j < at_ then j else j + 1]? = some x) (hy : ms[j]? = some y) :
    min ((x.cap : Int) : Rat) (t * x.w.q) ≤ min ((y.cap : Int) : Rat) (u * y.w.q) := by
  obtain ⟨_, h2, h3⟩ := h j x y hx hy
  rw [h2, h3]
  have hu2 := (h.scaled hl ha).lev (by decide) hu
  rw [Rat.mul_one, List.eraseIdx_eq_take_drop_succ] at hu2
  have e : l.take at_ ++ l[at_] :: l.drop (at_ + 1) = l := by rw [← List.drop_eq_getElem_cons ha, List.take_append_drop]
  refine leaves (p := l.take at_) (r := l.drop (at_ + 1)) (x := l[at_]) (a := a) (t := t) (u := u) (by rw [e]; exact hg) (by rw [e]; exact ht) hu2 x ?_
  rw [← List.eraseIdx_eq_take_drop_succ]
  refine List.mem_of_getElem? (i := j) ?_
  rw [List.getElem?_eraseIdx, ← hx]; split <;> rfl
theorem cmp_le0 {a b : Rat} (h : a ≤ b) : decide ((0 : Int) < Q.cmp a b) = false := by
  unfold Q.cmp
  by_cases h1 : a < b
  · rw [if_pos h1]; rfl
  · rw [if_neg h1, if_pos (Rat.le_antisymm h (Rat.not_lt.1 h1))]; rfl
theorem without_y {A : Option Addr} {c : Nat} {l : List Cl} {w : World} (hl : Ls w 6 A l.length c (l.map Cl.cells)) (hfr : ∀ x ∈ l, Fr.ok w x.w) (hV : ValidC l) {q : Nat} {x : Cl} (hx : l[q]? = some x) :
    Calls Tryz.prog 36 #[.slice A l.length c, .int .i64 x.id] w fun e w' => ∃ (A1 : Option Addr) (c1 : Nat) (ms : List Cl), e = .returned (.tuple #[.slice A1 ms.length c1, .int .i64 0]) ∧ Ls w' 6 A1 ms.length c1 (ms.map Cl.cells) ∧ (∀ y ∈ ms, Fr.ok w' y.w) ∧ WI q l ms ∧ ms.length + 1 = l.length ∧ Below w.heap.size w w' := by
  refine Calls.mono (without_s hl hfr hV) ?_
  rintro e w' (⟨at_, y, A1, c1, ms, rfl, h1, h2, h3, h4, h5, h6, hb⟩ | ⟨_, h, _⟩)
  · have := hV.inj h1 hx h2
    subst this
    exact ⟨A1, c1, ms, rfl, h3, h4, h5, h6, hb⟩
  · exact absurd rfl (h q x hx)
theorem without_n {A : Option Addr} {c : Nat} {l : List Cl} {w : World} {id : Int} (hl : Ls w 6 A l.length c (l.map Cl.cells)) (hfr : ∀ x ∈ l, Fr.ok w x.w) (hV : ValidC l) (hn : ∀ (j : Nat) (y : Cl), l[j]? = some y → y.id ≠ id) :
    Calls Tryz.prog 36 #[.slice A l.length c, .int .i64 id] w fun e w' => e = .returned (.tuple #[.slice none 0 0, .int .i64 6]) ∧ Below w.heap.size w w' := by
  refine Calls.mono (without_s hl hfr hV) ?_
  rintro e w' (⟨at_, y, A1, c1, ms, rfl, h1, h2, _⟩ | ⟨rfl, _, hb⟩)
  · exact absurd h2 (hn at_ y h1)
  · exact ⟨rfl, hb⟩
theorem leaves_no1 {A : Option Addr} {c : Nat} {l : List Rc} {w : World} (hl : Ls w 6 A l.length c (l.map Rc.cells)) (hfr : ∀ x ∈ l, Rc.ok w x) {a b : Int} (ha : usableB a l = false) :
    Calls Tryz.prog 10 #[.int .i64 a, .slice A l.length c, .int .i64 b] w fun e w' => e = .returned (.bool true) ∧ Below w.heap.size w w' := by
 refine V.nt Tryz.func10 rfl rfl fun f0 hf => ?_
 have s0 : f0 0 = .int .i64 a := hf 0 (by simp)
 have s1 : f0 1 = .slice A l.length c := hf 1 (by simp)
 have s2 : f0 2 = .int .i64 b := hf 2 (by simp)
 clear hf
 have hb := Below.refl w.heap.size w
 have w_hl := hl
 have w_hfr := hfr
 refine V.seq ?_
 refine V.reg 1 [V.E (.bool false)] [] (V.i hl (V.i hfr hb)) ?_ ?_
 ·refine V.ac ?_ V.an
  ·exact V.z1 rfl fun h => V.xs rfl
 intro f1 W2 e3
 clear hl hfr hb
 obtain ⟨⟨hl, hfr, hb⟩, z_⟩ := e3.g
 obtain ⟨s0, s1, s2⟩ := V.e3 e3 s0 s1 s2
 have s6 := V.es e3 0 6 rfl
 clear e3 z_
 refine V.t_done rfl (V.nx (V.seq (V.seq ?_)))
 refine V.reg 2 [V.E (.bool true), V.E (.bool false)] [] (V.i hl (V.i hfr hb)) ?_ ?_
 ·refine V.a2 ?_ ?_
  ·refine V.s2 rfl fun f W h => ?_
   refine V.call en11 (V.args0 ) (Calls.mono (awake_s) ?_)
   rintro e W' ⟨rfl, hb⟩
   exact ⟨_, rfl, rfl, hb⟩
  ·exact V.z1 rfl fun h => V.x_un (V.ed h 0 17 rfl)
 intro f4 W5 e6
 clear hl hfr hb
 obtain ⟨⟨hl, hfr, hb⟩, z_⟩ := e6.g
 obtain ⟨s0, s1, s2, s6⟩ := V.e4 e6 s0 s1 s2 s6
 have s18 := V.es e6 1 18 rfl
 clear e6 z_
 refine V.t_done rfl (V.nx ?_)
 refine V.cond_f (V.ev_tmp rfl s18) ?_
 refine V.skip ?_
 refine V.nx (V.seq (V.seq ?_))
 refine V.reg 14 [V.E (.int .i64 a), V.E (.slice A l.length c), V.E (.bool false), V.E (.bool true), V.E (.bool true), (V.Gd (!true) (V.E (.int .i64 b))), (V.Gd (!true) (V.E (.bool (decide (b < 0))))), V.E (.bool true), V.E (.bool true), (V.Gd (!true) (V.E (.int .i64 b))), (V.Gd (!true) (V.E (.slice A l.length c))), (V.Gd (!true) (V.E (.int .i64 (l.length : Int)))), (V.Gd (!true) (V.E (.bool (decide ((l.length : Int) ≤ b))))), V.E (.bool true)] [] (V.i hl (V.i hfr hb)) ?_ ?_
 ·refine V.b8 ?_ ?_ ?_ ?_ ?_ ?_ ?_ ?_ (V.a6 ?_ ?_ ?_ ?_ ?_ ?_)
  ·exact V.mo rfl 0 s0
  ·exact V.mo rfl 1 s1
  ·refine V.s2 rfl fun f W h => ?_
   refine V.call en12 (V.args2 (V.ed h 0 19 rfl) (V.ed h 1 20 rfl)) (Calls.mono (usable_s h.g.1.1 h.g.1.2.1) ?_)
   rintro e W' ⟨e7, hb⟩
   rw [ha] at e7
   subst e7
   exact ⟨_, rfl, rfl, hb⟩
  ·exact V.z1 rfl fun h => V.x_un (V.ed h 2 21 rfl)
  ·exact V.me rfl 3 22 rfl
  ·exact V.gf 4 23 rfl rfl fun hp f W h => V.v1 (V.xm (V.eo h 2 s2))
  ·exact V.gf 4 23 rfl rfl fun hp f W h => V.v1 (V.xb (V.eg h 5 24 rfl hp) rfl)
  ·refine V.s1 rfl fun f W h => ?_
   have d25 := V.dp h 6 25 (by kernel_rfl) rfl
   exact V.x_pick_t (V.ed h 4 23 rfl) rfl
  ·exact V.me rfl 7 26 rfl
  ·exact V.gf 8 27 rfl rfl fun hp f W h => V.v1 (V.xm (V.eo h 2 s2))
  ·exact V.gf 8 27 rfl rfl fun hp f W h => V.v1 (V.xm (V.eo h 1 s1))
  ·exact V.gf 8 27 rfl rfl fun hp f W h => V.v1 (V.x_len (V.eg h 10 29 rfl hp))
  ·exact V.gf 8 27 rfl rfl fun hp f W h => V.v1 (V.xb (V.eg h 9 28 rfl hp) (V.eg h 11 30 rfl hp))
  ·refine V.s1 rfl fun f W h => ?_
   have d31 := V.dp h 12 31 (by kernel_rfl) rfl
   exact V.x_pick_t (V.ed h 8 27 rfl) rfl
 intro f8 W9 e10
 clear hl hfr hb
 obtain ⟨⟨hl, hfr, hb⟩, z_⟩ := e10.g
 obtain ⟨s0, s1, s2, s6⟩ := V.e4 e10 s0 s1 s2 s6
 have s32 := V.es e10 13 32 rfl
 clear e10 z_
 refine V.t_done rfl (V.nx ?_)
 refine V.cond_t (V.ev_tmp rfl s32) ?_
 refine V.seq ?_
 refine V.reg 1 [V.E (.bool true)] [] (V.i hl (V.i hfr hb)) ?_ ?_
 ·refine V.ac ?_ V.an
  ·exact V.z1 rfl fun h => V.xs rfl
 intro f11 W12 e13
 clear hl hfr hb
 obtain ⟨⟨hl, hfr, hb⟩, z_⟩ := e13.g
 obtain ⟨s0, s1, s2⟩ := V.e3 e13 s0 s1 s2
 have s6 := V.es e13 0 6 rfl
 clear e13 z_
 refine V.t_done rfl (V.nx (V.ret (V.tr ?_)))
 refine V.leave_any (.inl rfl) (V.res_tmp rfl rfl s6) ?_
 exact ⟨rfl, hb⟩
theorem leaves_no2 {A : Option Addr} {c : Nat} {l : List Rc} {w : World} (hl : Ls w 6 A l.length c (l.map Rc.cells)) (hfr : ∀ x ∈ l, Rc.ok w x) {a b : Int} (ha : usableB a l = true) (hb0 : b < 0) :
    Calls Tryz.prog 10 #[.int .i64 a, .slice A l.length c, .int .i64 b] w fun e w' => e = .returned (.bool true) ∧ Below w.heap.size w w' := by
 refine V.nt Tryz.func10 rfl rfl fun f0 hf => ?_
 have s0 : f0 0 = .int .i64 a := hf 0 (by simp)
 have s1 : f0 1 = .slice A l.length c := hf 1 (by simp)
 have s2 : f0 2 = .int .i64 b := hf 2 (by simp)
 clear hf
 have hb := Below.refl w.heap.size w
 have w_hl := hl
 have w_hfr := hfr
 refine V.seq ?_
 refine V.reg 1 [V.E (.bool false)] [] (V.i hl (V.i hfr hb)) ?_ ?_
 ·refine V.ac ?_ V.an
  ·exact V.z1 rfl fun h => V.xs rfl
 intro f14 W15 e16
 clear hl hfr hb
 obtain ⟨⟨hl, hfr, hb⟩, z_⟩ := e16.g
 obtain ⟨s0, s1, s2⟩ := V.e3 e16 s0 s1 s2
 have s6 := V.es e16 0 6 rfl
 clear e16 z_
 refine V.t_done rfl (V.nx (V.seq (V.seq ?_)))
 refine V.reg 2 [V.E (.bool true), V.E (.bool false)] [] (V.i hl (V.i hfr hb)) ?_ ?_
 ·refine V.a2 ?_ ?_
  ·refine V.s2 rfl fun f W h => ?_
   refine V.call en11 (V.args0 ) (Calls.mono (awake_s) ?_)
   rintro e W' ⟨rfl, hb⟩
   exact ⟨_, rfl, rfl, hb⟩
  ·exact V.z1 rfl fun h => V.x_un (V.ed h 0 17 rfl)
 intro f17 W18 e19
 clear hl hfr hb
 obtain ⟨⟨hl, hfr, hb⟩, z_⟩ := e19.g
 obtain ⟨s0, s1, s2, s6⟩ := V.e4 e19 s0 s1 s2 s6
 have s18 := V.es e19 1 18 rfl
 clear e19 z_
 refine V.t_done rfl (V.nx ?_)
 refine V.cond_f (V.ev_tmp rfl s18) ?_
 refine V.skip ?_
 refine V.nx (V.seq (V.seq ?_))
 refine V.reg 14 [V.E (.int .i64 a), V.E (.slice A l.length c), V.E (.bool true), V.E (.bool false), V.E (.bool false), (V.Gd (!false) (V.E (.int .i64 b))), (V.Gd (!false) (V.E (.bool true))), V.E (.bool true), V.E (.bool true), (V.Gd (!true) (V.E (.int .i64 b))), (V.Gd (!true) (V.E (.slice A l.length c))), (V.Gd (!true) (V.E (.int .i64 (l.length : Int)))), (V.Gd (!true) (V.E (.bool (decide ((l.length : Int) ≤ b))))), V.E (.bool true)] [] (V.i hl (V.i hfr hb)) ?_ ?_
 ·refine V.b8 ?_ ?_ ?_ ?_ ?_ ?_ ?_ ?_ (V.a6 ?_ ?_ ?_ ?_ ?_ ?_)
  ·exact V.mo rfl 0 s0
  ·exact V.mo rfl 1 s1
  ·refine V.s2 rfl fun f W h => ?_
   refine V.call en12 (V.args2 (V.ed h 0 19 rfl) (V.ed h 1 20 rfl)) (Calls.mono (usable_s h.g.1.1 h.g.1.2.1) ?_)
   rintro e W' ⟨e20, hb⟩
   rw [ha] at e20
   subst e20
   exact ⟨_, rfl, rfl, hb⟩
  ·exact V.z1 rfl fun h => V.x_un (V.ed h 2 21 rfl)
  ·exact V.me rfl 3 22 rfl
  ·exact V.gf 4 23 rfl rfl fun hp f W h => V.v1 (V.xm (V.eo h 2 s2))
  ·exact V.gf 4 23 rfl rfl fun hp f W h => V.v1 (V.xb (V.eg h 5 24 rfl hp) rfl ((by kernel_rfl : _ = Result.ok (.bool (decide (b < 0))) _).trans (by rw [show (decide (b < 0)) = true from decide_eq_true hb0])))
  ·refine V.s1 rfl fun f W h => ?_
   have d25 := V.dp h 6 25 (by kernel_rfl) rfl
   exact V.x_pick_f (V.ed h 4 23 rfl) (V.ev_tmp rfl (V.gd_on d25 rfl))
  ·exact V.me rfl 7 26 rfl
  ·exact V.gf 8 27 rfl rfl fun hp f W h => V.v1 (V.xm (V.eo h 2 s2))
  ·exact V.gf 8 27 rfl rfl fun hp f W h => V.v1 (V.xm (V.eo h 1 s1))
  ·exact V.gf 8 27 rfl rfl fun hp f W h => V.v1 (V.x_len (V.eg h 10 29 rfl hp))
  ·exact V.gf 8 27 rfl rfl fun hp f W h => V.v1 (V.xb (V.eg h 9 28 rfl hp) (V.eg h 11 30 rfl hp))
  ·refine V.s1 rfl fun f W h => ?_
   have d31 := V.dp h 12 31 (by kernel_rfl) rfl
   exact V.x_pick_t (V.ed h 8 27 rfl) rfl
 intro f21 W22 e23
 clear hl hfr hb
 obtain ⟨⟨hl, hfr, hb⟩, z_⟩ := e23.g
 obtain ⟨s0, s1, s2, s6⟩ := V.e4 e23 s0 s1 s2 s6
 have s32 := V.es e23 13 32 rfl
 clear e23 z_
 refine V.t_done rfl (V.nx ?_)
 refine V.cond_t (V.ev_tmp rfl s32) ?_
 refine V.seq ?_
 refine V.reg 1 [V.E (.bool true)] [] (V.i hl (V.i hfr hb)) ?_ ?_
 ·refine V.ac ?_ V.an
  ·exact V.z1 rfl fun h => V.xs rfl
 intro f24 W25 e26
 clear hl hfr hb
 obtain ⟨⟨hl, hfr, hb⟩, z_⟩ := e26.g
 obtain ⟨s0, s1, s2⟩ := V.e3 e26 s0 s1 s2
 have s6 := V.es e26 0 6 rfl
 clear e26 z_
 refine V.t_done rfl (V.nx (V.ret (V.tr ?_)))
 refine V.leave_any (.inl rfl) (V.res_tmp rfl rfl s6) ?_
 exact ⟨rfl, hb⟩
theorem leaves_no3 {A : Option Addr} {c : Nat} {l : List Rc} {w : World} (hl : Ls w 6 A l.length c (l.map Rc.cells)) (hfr : ∀ x ∈ l, Rc.ok w x) {a b : Int} (ha : usableB a l = true) (hb0 : 0 ≤ b) (hb1 : (l.length : Int) ≤ b) :
    Calls Tryz.prog 10 #[.int .i64 a, .slice A l.length c, .int .i64 b] w fun e w' => e = .returned (.bool true) ∧ Below w.heap.size w w' := by
 refine V.nt Tryz.func10 rfl rfl fun f0 hf => ?_
 have s0 : f0 0 = .int .i64 a := hf 0 (by simp)
 have s1 : f0 1 = .slice A l.length c := hf 1 (by simp)
 have s2 : f0 2 = .int .i64 b := hf 2 (by simp)
 clear hf
 have hb := Below.refl w.heap.size w
 have w_hl := hl
 have w_hfr := hfr
 refine V.seq ?_
 refine V.reg 1 [V.E (.bool false)] [] (V.i hl (V.i hfr hb)) ?_ ?_
 ·refine V.ac ?_ V.an
  ·exact V.z1 rfl fun h => V.xs rfl
 intro f27 W28 e29
 clear hl hfr hb
 obtain ⟨⟨hl, hfr, hb⟩, z_⟩ := e29.g
 obtain ⟨s0, s1, s2⟩ := V.e3 e29 s0 s1 s2
 have s6 := V.es e29 0 6 rfl
 clear e29 z_
 refine V.t_done rfl (V.nx (V.seq (V.seq ?_)))
 refine V.reg 2 [V.E (.bool true), V.E (.bool false)] [] (V.i hl (V.i hfr hb)) ?_ ?_
 ·refine V.a2 ?_ ?_
  ·refine V.s2 rfl fun f W h => ?_
   refine V.call en11 (V.args0 ) (Calls.mono (awake_s) ?_)
   rintro e W' ⟨rfl, hb⟩
   exact ⟨_, rfl, rfl, hb⟩
  ·exact V.z1 rfl fun h => V.x_un (V.ed h 0 17 rfl)
 intro f30 W31 e32
 clear hl hfr hb
 obtain ⟨⟨hl, hfr, hb⟩, z_⟩ := e32.g
 obtain ⟨s0, s1, s2, s6⟩ := V.e4 e32 s0 s1 s2 s6
 have s18 := V.es e32 1 18 rfl
 clear e32 z_
 refine V.t_done rfl (V.nx ?_)
 refine V.cond_f (V.ev_tmp rfl s18) ?_
 refine V.skip ?_
 refine V.nx (V.seq (V.seq ?_))
 refine V.reg 14 [V.E (.int .i64 a), V.E (.slice A l.length c), V.E (.bool true), V.E (.bool false), V.E (.bool false), (V.Gd (!false) (V.E (.int .i64 b))), (V.Gd (!false) (V.E (.bool false))), V.E (.bool false), V.E (.bool false), (V.Gd (!false) (V.E (.int .i64 b))), (V.Gd (!false) (V.E (.slice A l.length c))), (V.Gd (!false) (V.E (.int .i64 (l.length : Int)))), (V.Gd (!false) (V.E (.bool true))), V.E (.bool true)] [] (V.i hl (V.i hfr hb)) ?_ ?_
 ·refine V.b8 ?_ ?_ ?_ ?_ ?_ ?_ ?_ ?_ (V.a6 ?_ ?_ ?_ ?_ ?_ ?_)
  ·exact V.mo rfl 0 s0
  ·exact V.mo rfl 1 s1
  ·refine V.s2 rfl fun f W h => ?_
   refine V.call en12 (V.args2 (V.ed h 0 19 rfl) (V.ed h 1 20 rfl)) (Calls.mono (usable_s h.g.1.1 h.g.1.2.1) ?_)
   rintro e W' ⟨e33, hb⟩
   rw [ha] at e33
   subst e33
   exact ⟨_, rfl, rfl, hb⟩
  ·exact V.z1 rfl fun h => V.x_un (V.ed h 2 21 rfl)
  ·exact V.me rfl 3 22 rfl
  ·exact V.gf 4 23 rfl rfl fun hp f W h => V.v1 (V.xm (V.eo h 2 s2))
  ·exact V.gf 4 23 rfl rfl fun hp f W h => V.v1 (V.xb (V.eg h 5 24 rfl hp) rfl ((by kernel_rfl : _ = Result.ok (.bool (decide (b < 0))) _).trans (by rw [show (decide (b < 0)) = false from decide_eq_false (by omega)])))
  ·refine V.s1 rfl fun f W h => ?_
   have d25 := V.dp h 6 25 (by kernel_rfl) rfl
   exact V.x_pick_f (V.ed h 4 23 rfl) (V.ev_tmp rfl (V.gd_on d25 rfl))
  ·exact V.me rfl 7 26 rfl
  ·exact V.gf 8 27 rfl rfl fun hp f W h => V.v1 (V.xm (V.eo h 2 s2))
  ·exact V.gf 8 27 rfl rfl fun hp f W h => V.v1 (V.xm (V.eo h 1 s1))
  ·exact V.gf 8 27 rfl rfl fun hp f W h => V.v1 (V.x_len (V.eg h 10 29 rfl hp))
  ·exact V.gf 8 27 rfl rfl fun hp f W h => V.v1 (V.xb (V.eg h 9 28 rfl hp) (V.eg h 11 30 rfl hp) ((by kernel_rfl : _ = Result.ok (.bool (decide ((l.length : Int) ≤ b))) _).trans (by rw [show (decide ((l.length : Int) ≤ b)) = true from decide_eq_true hb1])))
  ·refine V.s1 rfl fun f W h => ?_
   have d31 := V.dp h 12 31 (by kernel_rfl) rfl
   exact V.x_pick_f (V.ed h 8 27 rfl) (V.ev_tmp rfl (V.gd_on d31 rfl))
 intro f34 W35 e36
 clear hl hfr hb
 obtain ⟨⟨hl, hfr, hb⟩, z_⟩ := e36.g
 obtain ⟨s0, s1, s2, s6⟩ := V.e4 e36 s0 s1 s2 s6
 have s32 := V.es e36 13 32 rfl
 clear e36 z_
 refine V.t_done rfl (V.nx ?_)
 refine V.cond_t (V.ev_tmp rfl s32) ?_
 refine V.seq ?_
 refine V.reg 1 [V.E (.bool true)] [] (V.i hl (V.i hfr hb)) ?_ ?_
 ·refine V.ac ?_ V.an
  ·exact V.z1 rfl fun h => V.xs rfl
 intro f37 W38 e39
 clear hl hfr hb
 obtain ⟨⟨hl, hfr, hb⟩, z_⟩ := e39.g
 obtain ⟨s0, s1, s2⟩ := V.e3 e39 s0 s1 s2
 have s6 := V.es e39 0 6 rfl
 clear e39 z_
 refine V.t_done rfl (V.nx (V.ret (V.tr ?_)))
 refine V.leave_any (.inl rfl) (V.res_tmp rfl rfl s6) ?_
 exact ⟨rfl, hb⟩
theorem leaves_yes {A : Option Addr} {c : Nat} {l : List Cl} {w : World} (hl : Ls w 6 A l.length c (l.map Cl.cells)) (hfr : ∀ x ∈ l, Fr.ok w x.w) (hV : ValidC l) (h10 : l.length ≤ 10) {a : Int} (h0 : 0 ≤ a) (h1 : a ≤ 1099511627776) {q : Nat} (hq : q < l.length) :
    Calls Tryz.prog 10 #[.int .i64 a, .slice A l.length c, .int .i64 (q : Int)] w fun e w' => e = .returned (.bool true) ∧ Below w.heap.size w w' := by
 have h20 : l.length < 20 := by omega
 have hgood := hV.g
 obtain ⟨x0, mx0, ex0, ex0_⟩ := V.at_map Cl.cells (l := l) (i := q) hq
 refine V.nt Tryz.func10 rfl rfl fun f0 hf => ?_
 have s0 : f0 0 = .int .i64 a := hf 0 (by simp)
 have s1 : f0 1 = .slice A l.length c := hf 1 (by simp)
 have s2 : f0 2 = .int .i64 (q : Int) := hf 2 (by simp)
 clear hf
 have hb := Below.refl w.heap.size w
 have w_hl := hl
 have w_hfr := hfr
 refine V.seq ?_
 refine V.reg 1 [V.E (.bool false)] [] (V.i hl (V.i hfr hb)) ?_ ?_
 ·refine V.ac ?_ V.an
  ·exact V.z1 rfl fun h => V.xs rfl
 intro f40 W41 e42
 clear hl hfr hb
 obtain ⟨⟨hl, hfr, hb⟩, z_⟩ := e42.g
 obtain ⟨s0, s1, s2⟩ := V.e3 e42 s0 s1 s2
 have s6 := V.es e42 0 6 rfl
 clear e42 z_
 refine V.t_done rfl (V.nx (V.seq (V.seq ?_)))
 refine V.reg 2 [V.E (.bool true), V.E (.bool false)] [] (V.i hl (V.i hfr hb)) ?_ ?_
 ·refine V.a2 ?_ ?_
  ·refine V.s2 rfl fun f W h => ?_
   refine V.call en11 (V.args0 ) (Calls.mono (awake_s) ?_)
   rintro e W' ⟨rfl, hb⟩
   exact ⟨_, rfl, rfl, hb⟩
  ·exact V.z1 rfl fun h => V.x_un (V.ed h 0 17 rfl)
 intro f43 W44 e45
 clear hl hfr hb
 obtain ⟨⟨hl, hfr, hb⟩, z_⟩ := e45.g
 obtain ⟨s0, s1, s2, s6⟩ := V.e4 e45 s0 s1 s2 s6
 have s18 := V.es e45 1 18 rfl
 clear e45 z_
 refine V.t_done rfl (V.nx ?_)
 refine V.cond_f (V.ev_tmp rfl s18) ?_
 refine V.skip ?_
 refine V.nx (V.seq (V.seq ?_))
 refine V.reg 14 [V.E (.int .i64 a), V.E (.slice A l.length c), V.E (.bool true), V.E (.bool false), V.E (.bool false), (V.Gd (!false) (V.E (.int .i64 (q : Int)))), (V.Gd (!false) (V.E (.bool false))), V.E (.bool false), V.E (.bool false), (V.Gd (!false) (V.E (.int .i64 (q : Int)))), (V.Gd (!false) (V.E (.slice A l.length c))), (V.Gd (!false) (V.E (.int .i64 (l.length : Int)))), (V.Gd (!false) (V.E (.bool false))), V.E (.bool false)] [] (V.i hl (V.i hfr hb)) ?_ ?_
 ·refine V.b8 ?_ ?_ ?_ ?_ ?_ ?_ ?_ ?_ (V.a6 ?_ ?_ ?_ ?_ ?_ ?_)
  ·exact V.mo rfl 0 s0
  ·exact V.mo rfl 1 s1
  ·refine V.s2 rfl fun f W h => ?_
   refine V.call en12 (V.args2 (V.ed h 0 19 rfl) (V.ed h 1 20 rfl)) (Calls.mono (usable_t h.g.1.1 h.g.1.2.1 hV h10 h0 h1) ?_)
   rintro e W' ⟨rfl, hb⟩
   exact ⟨_, rfl, rfl, hb⟩
  ·exact V.z1 rfl fun h => V.x_un (V.ed h 2 21 rfl)
  ·exact V.me rfl 3 22 rfl
  ·exact V.gf 4 23 rfl rfl fun hp f W h => V.v1 (V.xm (V.eo h 2 s2))
  ·exact V.gf 4 23 rfl rfl fun hp f W h => V.v1 (V.xb (V.eg h 5 24 rfl hp) rfl ((by kernel_rfl : _ = Result.ok (.bool (decide ((q : Int) < 0))) _).trans (by rw [show (decide ((q : Int) < 0)) = false from decide_eq_false (by omega)])))
  ·refine V.s1 rfl fun f W h => ?_
   have d25 := V.dp h 6 25 (by kernel_rfl) rfl
   exact V.x_pick_f (V.ed h 4 23 rfl) (V.ev_tmp rfl (V.gd_on d25 rfl))
  ·exact V.me rfl 7 26 rfl
  ·exact V.gf 8 27 rfl rfl fun hp f W h => V.v1 (V.xm (V.eo h 2 s2))
  ·exact V.gf 8 27 rfl rfl fun hp f W h => V.v1 (V.xm (V.eo h 1 s1))
  ·exact V.gf 8 27 rfl rfl fun hp f W h => V.v1 (V.x_len (V.eg h 10 29 rfl hp))
  ·exact V.gf 8 27 rfl rfl fun hp f W h => V.v1 (V.xb (V.eg h 9 28 rfl hp) (V.eg h 11 30 rfl hp) ((by kernel_rfl : _ = Result.ok (.bool (decide ((l.length : Int) ≤ (q : Int)))) _).trans (by rw [show (decide ((l.length : Int) ≤ (q : Int))) = false from decide_eq_false (by omega)])))
  ·refine V.s1 rfl fun f W h => ?_
   have d31 := V.dp h 12 31 (by kernel_rfl) rfl
   exact V.x_pick_f (V.ed h 8 27 rfl) (V.ev_tmp rfl (V.gd_on d31 rfl))
 intro f46 W47 e48
 clear hl hfr hb
 obtain ⟨⟨hl, hfr, hb⟩, z_⟩ := e48.g
 obtain ⟨s0, s1, s2, s6⟩ := V.e4 e48 s0 s1 s2 s6
 have s32 := V.es e48 13 32 rfl
 clear e48 z_
 refine V.t_done rfl (V.nx ?_)
 refine V.cond_f (V.ev_tmp rfl s32) ?_
 refine V.skip ?_
 refine V.nx (V.seq ?_)
 refine V.reg 12 [V.E (.slice A l.length c), V.E (.slice A l.length c), V.E (.int .i64 (q : Int)), V.E (.pointer (some ((adr A).add (q * 6 + 0)))), V.E (.pointer (some ((adr A).add (q * 6 + 0)))), V.E (.int .i64 x0.id), (fun v W => ∃ A49 : Option Addr, ∃ c50 : Nat, ∃ ms51 : List Cl, v = .tuple #[.slice A49 ms51.length c50, .int .i64 0] ∧ Ls W 6 A49 ms51.length c50 (ms51.map Cl.cells) ∧ (∀ x ∈ ms51, Fr.ok W x.w) ∧ (WI q l ms51) ∧ (ms51.length + 1 = l.length)), (fun v W => ∃ A56 : Option Addr, ∃ c57 : Nat, ∃ ms58 : List Cl, v = .tuple #[.slice A56 ms58.length c57, .int .i64 0] ∧ Ls W 6 A56 ms58.length c57 (ms58.map Cl.cells) ∧ (∀ x ∈ ms58, Fr.ok W x.w) ∧ (WI q l ms58) ∧ (ms58.length + 1 = l.length)), (fun v W => ∃ A59 : Option Addr, ∃ c60 : Nat, ∃ ms61 : List Cl, v = .slice A59 ms61.length c60 ∧ Ls W 6 A59 ms61.length c60 (ms61.map Cl.cells) ∧ (∀ x ∈ ms61, Fr.ok W x.w) ∧ (WI q l ms61) ∧ (ms61.length + 1 = l.length)), V.E (.int .i64 0), (fun v W => ∃ A62 : Option Addr, ∃ c63 : Nat, ∃ ms64 : List Cl, v = .slice A62 ms64.length c63 ∧ Ls W 6 A62 ms64.length c63 (ms64.map Cl.cells) ∧ (∀ x ∈ ms64, Fr.ok W x.w) ∧ (WI q l ms64) ∧ (ms64.length + 1 = l.length)), V.E (.int .i64 0)] [] (V.i hl (V.i hfr hb)) ?_ ?_
 ·refine V.b8 ?_ ?_ ?_ ?_ ?_ ?_ ?_ ?_ (V.a4 ?_ ?_ ?_ ?_)
  ·exact V.mo rfl 1 s1
  ·exact V.mo rfl 1 s1
  ·exact V.mo rfl 2 s2
  ·exact V.z1 rfl fun h => V.xi (i := q) h.g.1.1 ex0_ (V.ed h 1 35 rfl) (V.ed h 2 36 rfl)
  ·exact V.z1 rfl fun h => V.x_fieldP (j := q * 6 + 0) (k := 0) (V.ed h 3 37 rfl) (fun _ => by kernel_rfl)
  ·exact V.z1 rfl fun h => V.xl (V.ed h 4 38 rfl) (V.ld_ls1 (i := q) (o := 0) h.g.1.1 ex0_ rfl)
  ·refine V.s2 rfl fun f W h => ?_
   refine V.call en36 (V.args2 (V.ed h 0 34 rfl) (V.ed h 5 39 rfl)) (Calls.mono (without_y h.g.1.1 h.g.1.2.1 hV ex0) ?_)
   rintro e W' ⟨A49, c50, ms51, rfl, p52, p53, p54, p55, hb⟩
   exact ⟨_, rfl, ⟨A49, c50, ms51, rfl, p52, p53, p54, p55⟩, hb⟩
  ·refine V.s2 rfl fun f W h => ?_
   obtain ⟨A49, c50, ms51, a40, k6_0, k6_1, p6_0, p6_1⟩ := V.dp h 6 40 (by kernel_rfl) rfl
   exact V.v2 (.tuple #[.slice A49 ms51.length c50, .int .i64 0]) (V.xm (V.ev_tmp rfl a40)) ⟨A49, c50, ms51, rfl, k6_0, k6_1, p6_0, p6_1⟩
  ·refine V.s2 rfl fun f W h => ?_
   obtain ⟨A56, c57, ms58, a33, k7_0, k7_1, p7_0, p7_1⟩ := V.dp h 7 33 (by kernel_rfl) rfl
   exact V.v2 (.slice A56 ms58.length c57) (V.xe (V.ev_tmp rfl a33)) ⟨A56, c57, ms58, rfl, k7_0, k7_1, p7_0, p7_1⟩
  ·refine V.s1 rfl fun f W h => ?_
   obtain ⟨A56, c57, ms58, a33, k7_0, k7_1, p7_0, p7_1⟩ := V.dp h 7 33 (by kernel_rfl) rfl
   exact V.xe (V.ev_tmp rfl a33)
  ·refine V.s2 rfl fun f W h => ?_
   obtain ⟨A59, c60, ms61, a41, k8_0, k8_1, p8_0, p8_1⟩ := V.dp h 8 41 (by kernel_rfl) rfl
   exact V.v2 (.slice A59 ms61.length c60) (V.xs (V.ev_tmp rfl a41)) ⟨A59, c60, ms61, rfl, k8_0, k8_1, p8_0, p8_1⟩
  ·exact V.se rfl 9 42 rfl
 intro f65 W66 e67
 clear hl hfr hb
 obtain ⟨⟨hl, hfr, hb⟩, z_⟩ := e67.g
 obtain ⟨s0, s1, s2, s6⟩ := V.e4 e67 s0 s1 s2 s6
 obtain ⟨A62, c63, ms64, s7, r68, r69, n70, n71⟩ := V.eq e67 10 7 rfl
 have hVm := n70.valid n71 hV
 have hm10 : ms64.length ≤ 10 := by omega
 have hm20 : ms64.length < 20 := by omega
 have hgone := n70.gone n71 hV ex0
 have s8 := V.es e67 11 8 rfl
 clear e67 z_
 refine V.t_done rfl (V.nx (V.seq ?_))
 refine V.reg 12 [V.E (.slice A62 ms64.length c63), V.E (.slice A l.length c), V.E (.int .i64 (q : Int)), V.E (.pointer (some ((adr A).add (q * 6 + 0)))), V.E (.pointer (some ((adr A).add (q * 6 + 0)))), V.E (.int .i64 x0.id), V.E (.tuple #[.slice none 0 0, .int .i64 6]), V.E (.tuple #[.slice none 0 0, .int .i64 6]), V.E (.slice none 0 0), V.E (.int .i64 6), V.E (.slice none 0 0), V.E (.int .i64 6)] [] (V.i hl (V.i hfr (V.i hb (V.i r68 r69)))) ?_ ?_
 ·refine V.b8 ?_ ?_ ?_ ?_ ?_ ?_ ?_ ?_ (V.a4 ?_ ?_ ?_ ?_)
  ·exact V.mo rfl 7 s7
  ·exact V.mo rfl 1 s1
  ·exact V.mo rfl 2 s2
  ·exact V.z1 rfl fun h => V.xi (i := q) h.g.1.1 ex0_ (V.ed h 1 45 rfl) (V.ed h 2 46 rfl)
  ·exact V.z1 rfl fun h => V.x_fieldP (j := q * 6 + 0) (k := 0) (V.ed h 3 47 rfl) (fun _ => by kernel_rfl)
  ·exact V.z1 rfl fun h => V.xl (V.ed h 4 48 rfl) (V.ld_ls1 (i := q) (o := 0) h.g.1.1 ex0_ rfl)
  ·refine V.s2 rfl fun f W h => ?_
   refine V.call en36 (V.args2 (V.ed h 0 44 rfl) (V.ed h 5 49 rfl)) (Calls.mono (without_n h.g.1.2.2.2.1 h.g.1.2.2.2.2 hVm hgone) ?_)
   rintro e W' ⟨e72, hb⟩
   subst e72
   exact ⟨_, rfl, rfl, hb⟩
  ·exact V.me rfl 6 50 rfl
  ·exact V.z1 rfl fun h => V.xe (V.ed h 7 43 rfl)
  ·exact V.z1 rfl fun h => V.xe (V.ed h 7 43 rfl)
  ·exact V.se rfl 8 51 rfl
  ·exact V.se rfl 9 52 rfl
 intro f73 W74 e75
 clear hl hfr hb r68 r69
 obtain ⟨⟨hl, hfr, hb, r68, r69⟩, z_⟩ := e75.g
 obtain ⟨s0, s1, s2, s6, s7, s8⟩ := V.e6 e75 s0 s1 s2 s6 s7 s8
 have s10 := V.es e75 11 10 rfl
 clear e75 z_
 refine V.t_done rfl (V.nx (V.seq ?_))
 refine V.reg 8 [V.E (.int .i64 a), V.E (.slice A l.length c), (fun v W => ∃ g76 : Nat, ∃ xs77 : List Fr, ∃ t78 : Rat, v = .tuple #[.slice (some ⟨g76, 0, none⟩) l.length l.length, .int .i64 0] ∧ Own W g76 39 4 (xs77.map Fr.cells) ([]) ∧ (∀ x ∈ xs77, Fr.ok W x) ∧ (LevOf a l t78) ∧ (ExP l t78 xs77) ∧ (w.heap.size ≤ g76) ∧ (W74.heap.size ≤ g76)), (fun v W => ∃ g84 : Nat, ∃ xs85 : List Fr, ∃ t86 : Rat, v = .tuple #[.slice (some ⟨g84, 0, none⟩) l.length l.length, .int .i64 0] ∧ Own W g84 39 4 (xs85.map Fr.cells) ([]) ∧ (∀ x ∈ xs85, Fr.ok W x) ∧ (LevOf a l t86) ∧ (ExP l t86 xs85) ∧ (w.heap.size ≤ g84) ∧ (W74.heap.size ≤ g84)), (fun v W => ∃ g87 : Nat, ∃ xs88 : List Fr, ∃ t89 : Rat, v = .slice (some ⟨g87, 0, none⟩) l.length l.length ∧ Own W g87 39 4 (xs88.map Fr.cells) ([]) ∧ (∀ x ∈ xs88, Fr.ok W x) ∧ (LevOf a l t89) ∧ (ExP l t89 xs88) ∧ (w.heap.size ≤ g87) ∧ (W74.heap.size ≤ g87)), V.E (.int .i64 0), (fun v W => ∃ g90 : Nat, ∃ xs91 : List Fr, ∃ t92 : Rat, v = .slice (some ⟨g90, 0, none⟩) l.length l.length ∧ Own W g90 39 4 (xs91.map Fr.cells) ([]) ∧ (∀ x ∈ xs91, Fr.ok W x) ∧ (LevOf a l t92) ∧ (ExP l t92 xs91) ∧ (w.heap.size ≤ g90) ∧ (W74.heap.size ≤ g90)), V.E (.int .i64 0)] [] (V.i hl (V.i hfr (V.i hb (V.i r68 r69)))) ?_ ?_
 ·refine V.a8 ?_ ?_ ?_ ?_ ?_ ?_ ?_ ?_
  ·exact V.mo rfl 0 s0
  ·exact V.mo rfl 1 s1
  ·refine V.s2 rfl fun f W h => ?_
   refine V.call en14 (V.args2 (V.ed h 0 54 rfl) (V.ed h 1 55 rfl)) (Calls.mono (Exact_s h.g.1.1 h.g.1.2.1 hV h20 h0 h1) ?_)
   rintro e W' ⟨g76, xs77, t78, rfl, p79, p80, p81, p82, p83, hb⟩
   exact ⟨_, rfl, ⟨g76, xs77, t78, rfl, p81, p82, p79, p80, Nat.le_trans h.g.1.2.2.1.size p83, Nat.le_trans h.g.2 p83⟩, hb⟩
  ·refine V.s2 rfl fun f W h => ?_
   obtain ⟨g76, xs77, t78, a56, k2_0, k2_1, p2_0, p2_1, p2_2, p2_3⟩ := V.dp h 2 56 (by kernel_rfl) rfl
   exact V.v2 (.tuple #[.slice (some ⟨g76, 0, none⟩) l.length l.length, .int .i64 0]) (V.xm (V.ev_tmp rfl a56)) ⟨g76, xs77, t78, rfl, k2_0, k2_1, p2_0, p2_1, p2_2, p2_3⟩
  ·refine V.s2 rfl fun f W h => ?_
   obtain ⟨g84, xs85, t86, a53, k3_0, k3_1, p3_0, p3_1, p3_2, p3_3⟩ := V.dp h 3 53 (by kernel_rfl) rfl
   exact V.v2 (.slice (some ⟨g84, 0, none⟩) l.length l.length) (V.xe (V.ev_tmp rfl a53)) ⟨g84, xs85, t86, rfl, k3_0, k3_1, p3_0, p3_1, p3_2, p3_3⟩
  ·refine V.s1 rfl fun f W h => ?_
   obtain ⟨g84, xs85, t86, a53, k3_0, k3_1, p3_0, p3_1, p3_2, p3_3⟩ := V.dp h 3 53 (by kernel_rfl) rfl
   exact V.xe (V.ev_tmp rfl a53)
  ·refine V.s2 rfl fun f W h => ?_
   obtain ⟨g87, xs88, t89, a57, k4_0, k4_1, p4_0, p4_1, p4_2, p4_3⟩ := V.dp h 4 57 (by kernel_rfl) rfl
   exact V.v2 (.slice (some ⟨g87, 0, none⟩) l.length l.length) (V.xs (V.ev_tmp rfl a57)) ⟨g87, xs88, t89, rfl, k4_0, k4_1, p4_0, p4_1, p4_2, p4_3⟩
  ·exact V.se rfl 5 58 rfl
 intro f93 W94 e95
 clear hl hfr hb r68 r69
 obtain ⟨⟨hl, hfr, hb, r68, r69⟩, z_⟩ := e95.g
 obtain ⟨s0, s1, s2, s6, s7, s8, s10⟩ := V.e7 e95 s0 s1 s2 s6 s7 s8 s10
 obtain ⟨g90, xs91, t92, s11, r96, r97, n98, n99, n100, n101⟩ := V.eq e95 6 11 rfl
 have s12 := V.es e95 7 12 rfl
 clear e95 z_
 refine V.t_done rfl (V.nx (V.seq ?_))
 refine V.reg 8 [V.E (.int .i64 a), V.E (.slice A62 ms64.length c63), (fun v W => ∃ g103 : Nat, ∃ xs104 : List Fr, ∃ t105 : Rat, v = .tuple #[.slice (some ⟨g103, 0, none⟩) ms64.length ms64.length, .int .i64 0] ∧ Own W g103 39 4 (xs104.map Fr.cells) ([]) ∧ (∀ x ∈ xs104, Fr.ok W x) ∧ (LevOf a ms64 t105) ∧ (ExP ms64 t105 xs104) ∧ (w.heap.size ≤ g103) ∧ (W94.heap.size ≤ g103)), (fun v W => ∃ g111 : Nat, ∃ xs112 : List Fr, ∃ t113 : Rat, v = .tuple #[.slice (some ⟨g111, 0, none⟩) ms64.length ms64.length, .int .i64 0] ∧ Own W g111 39 4 (xs112.map Fr.cells) ([]) ∧ (∀ x ∈ xs112, Fr.ok W x) ∧ (LevOf a ms64 t113) ∧ (ExP ms64 t113 xs112) ∧ (w.heap.size ≤ g111) ∧ (W94.heap.size ≤ g111)), (fun v W => ∃ g114 : Nat, ∃ xs115 : List Fr, ∃ t116 : Rat, v = .slice (some ⟨g114, 0, none⟩) ms64.length ms64.length ∧ Own W g114 39 4 (xs115.map Fr.cells) ([]) ∧ (∀ x ∈ xs115, Fr.ok W x) ∧ (LevOf a ms64 t116) ∧ (ExP ms64 t116 xs115) ∧ (w.heap.size ≤ g114) ∧ (W94.heap.size ≤ g114)), V.E (.int .i64 0), (fun v W => ∃ g117 : Nat, ∃ xs118 : List Fr, ∃ t119 : Rat, v = .slice (some ⟨g117, 0, none⟩) ms64.length ms64.length ∧ Own W g117 39 4 (xs118.map Fr.cells) ([]) ∧ (∀ x ∈ xs118, Fr.ok W x) ∧ (LevOf a ms64 t119) ∧ (ExP ms64 t119 xs118) ∧ (w.heap.size ≤ g117) ∧ (W94.heap.size ≤ g117)), V.E (.int .i64 0)] [] (V.i hl (V.i hfr (V.i hb (V.i r68 (V.i r69 (V.i r96 r97)))))) ?_ ?_
 ·refine V.a8 ?_ ?_ ?_ ?_ ?_ ?_ ?_ ?_
  ·exact V.mo rfl 0 s0
  ·exact V.mo rfl 7 s7
  ·refine V.s2 rfl fun f W h => ?_
   refine V.call en14 (V.args2 (V.ed h 0 60 rfl) (V.ed h 1 61 rfl)) (Calls.mono (Exact_s h.g.1.2.2.2.1 h.g.1.2.2.2.2.1 hVm hm20 h0 h1) ?_)
   rintro e W' ⟨g103, xs104, t105, rfl, p106, p107, p108, p109, p110, hb⟩
   exact ⟨_, rfl, ⟨g103, xs104, t105, rfl, p108, p109, p106, p107, Nat.le_trans h.g.1.2.2.1.size p110, Nat.le_trans h.g.2 p110⟩, hb⟩
  ·refine V.s2 rfl fun f W h => ?_
   obtain ⟨g103, xs104, t105, a62, k2_0, k2_1, p2_0, p2_1, p2_2, p2_3⟩ := V.dp h 2 62 (by kernel_rfl) rfl
   exact V.v2 (.tuple #[.slice (some ⟨g103, 0, none⟩) ms64.length ms64.length, .int .i64 0]) (V.xm (V.ev_tmp rfl a62)) ⟨g103, xs104, t105, rfl, k2_0, k2_1, p2_0, p2_1, p2_2, p2_3⟩
  ·refine V.s2 rfl fun f W h => ?_
   obtain ⟨g111, xs112, t113, a59, k3_0, k3_1, p3_0, p3_1, p3_2, p3_3⟩ := V.dp h 3 59 (by kernel_rfl) rfl
   exact V.v2 (.slice (some ⟨g111, 0, none⟩) ms64.length ms64.length) (V.xe (V.ev_tmp rfl a59)) ⟨g111, xs112, t113, rfl, k3_0, k3_1, p3_0, p3_1, p3_2, p3_3⟩
  ·refine V.s1 rfl fun f W h => ?_
   obtain ⟨g111, xs112, t113, a59, k3_0, k3_1, p3_0, p3_1, p3_2, p3_3⟩ := V.dp h 3 59 (by kernel_rfl) rfl
   exact V.xe (V.ev_tmp rfl a59)
  ·refine V.s2 rfl fun f W h => ?_
   obtain ⟨g114, xs115, t116, a63, k4_0, k4_1, p4_0, p4_1, p4_2, p4_3⟩ := V.dp h 4 63 (by kernel_rfl) rfl
   exact V.v2 (.slice (some ⟨g114, 0, none⟩) ms64.length ms64.length) (V.xs (V.ev_tmp rfl a63)) ⟨g114, xs115, t116, rfl, k4_0, k4_1, p4_0, p4_1, p4_2, p4_3⟩
  ·exact V.se rfl 5 64 rfl
 have o_g90 := r96.blk.lt
 intro f120 W121 e122
 clear hl hfr hb r68 r69 r96 r97
 obtain ⟨⟨hl, hfr, hb, r68, r69, r96, r97⟩, z_⟩ := e122.g
 obtain ⟨s0, s1, s2, s6, s7, s8, s10, s11, s12⟩ := V.e9 e122 s0 s1 s2 s6 s7 s8 s10 s11 s12
 obtain ⟨g117, xs118, t119, s13, r123, r124, n125, n126, n127, n128⟩ := V.eq e122 6 13 rfl
 have s14 := V.es e122 7 14 rfl
 clear e122 z_
 clear o_g90
 refine V.t_done rfl (V.nx (V.seq (V.seq ?_)))
 refine V.reg 36 [V.E (.int .i64 0), V.E (.bool false), V.E (.bool false), (V.Gd (!false) (V.E (.int .i64 6))), (V.Gd (!false) (V.E (.bool false))), V.E (.bool false), V.E (.bool false), (V.Gd (!false) (V.E (.int .i64 0))), (V.Gd (!false) (V.E (.bool false))), V.E (.bool false), V.E (.bool false), (V.Gd (!false) (V.E (.int .i64 0))), (V.Gd (!false) (V.E (.bool false))), V.E (.bool false), V.E (.bool false), (V.Gd (!false) (V.E (.slice A62 ms64.length c63))), (V.Gd (!false) (V.E (.int .i64 (ms64.length : Int)))), (V.Gd (!false) (V.E (.slice A l.length c))), (V.Gd (!false) (V.E (.int .i64 (l.length : Int)))), (V.Gd (!false) (V.E (.int .i64 ((l.length : Int) - 1)))), (V.Gd (!false) (V.E (.bool false))), V.E (.bool false), V.E (.bool false), (V.Gd (!false) (V.E (.slice (some ⟨g90, 0, none⟩) l.length l.length))), (V.Gd (!false) (V.E (.int .i64 (l.length : Int)))), (V.Gd (!false) (V.E (.slice A l.length c))), (V.Gd (!false) (V.E (.int .i64 (l.length : Int)))), (V.Gd (!false) (V.E (.bool false))), V.E (.bool false), V.E (.bool false), (V.Gd (!false) (V.E (.slice (some ⟨g117, 0, none⟩) ms64.length ms64.length))), (V.Gd (!false) (V.E (.int .i64 (ms64.length : Int)))), (V.Gd (!false) (V.E (.slice A62 ms64.length c63))), (V.Gd (!false) (V.E (.int .i64 (ms64.length : Int)))), (V.Gd (!false) (V.E (.bool false))), V.E (.bool false)] [] (V.i hl (V.i hfr (V.i hb (V.i r68 (V.i r69 (V.i r96 (V.i r97 (V.i r123 r124)))))))) ?_ ?_
 ·refine V.b8 ?_ ?_ ?_ ?_ ?_ ?_ ?_ ?_ (V.b8 ?_ ?_ ?_ ?_ ?_ ?_ ?_ ?_ (V.b8 ?_ ?_ ?_ ?_ ?_ ?_ ?_ ?_ (V.b8 ?_ ?_ ?_ ?_ ?_ ?_ ?_ ?_ (V.a4 ?_ ?_ ?_ ?_))))
  ·exact V.mo rfl 8 s8
  ·exact V.z1 rfl fun h => V.xb (V.ed h 0 65 rfl) rfl
  ·exact V.me rfl 1 66 rfl
  ·exact V.gf 2 67 rfl rfl fun hp f W h => V.v1 (V.xm (V.eo h 10 s10))
  ·exact V.gf 2 67 rfl rfl fun hp f W h => V.v1 (V.xb (V.eg h 3 68 rfl hp) rfl)
  ·refine V.s1 rfl fun f W h => ?_
   have d69 := V.dp h 4 69 (by kernel_rfl) rfl
   exact V.x_pick_f (V.ed h 2 67 rfl) (V.ev_tmp rfl (V.gd_on d69 rfl))
  ·exact V.me rfl 5 70 rfl
  ·exact V.gf 6 71 rfl rfl fun hp f W h => V.v1 (V.xm (V.eo h 12 s12))
  ·exact V.gf 6 71 rfl rfl fun hp f W h => V.v1 (V.xb (V.eg h 7 72 rfl hp) rfl)
  ·refine V.s1 rfl fun f W h => ?_
   have d73 := V.dp h 8 73 (by kernel_rfl) rfl
   exact V.x_pick_f (V.ed h 6 71 rfl) (V.ev_tmp rfl (V.gd_on d73 rfl))
  ·exact V.me rfl 9 74 rfl
  ·exact V.gf 10 75 rfl rfl fun hp f W h => V.v1 (V.xm (V.eo h 14 s14))
  ·exact V.gf 10 75 rfl rfl fun hp f W h => V.v1 (V.xb (V.eg h 11 76 rfl hp) rfl)
  ·refine V.s1 rfl fun f W h => ?_
   have d77 := V.dp h 12 77 (by kernel_rfl) rfl
   exact V.x_pick_f (V.ed h 10 75 rfl) (V.ev_tmp rfl (V.gd_on d77 rfl))
  ·exact V.me rfl 13 78 rfl
  ·exact V.gf 14 79 rfl rfl fun hp f W h => V.v1 (V.xm (V.eo h 7 s7))
  ·exact V.gf 14 79 rfl rfl fun hp f W h => V.v1 (V.x_len (V.eg h 15 80 rfl hp))
  ·exact V.gf 14 79 rfl rfl fun hp f W h => V.v1 (V.xm (V.eo h 1 s1))
  ·exact V.gf 14 79 rfl rfl fun hp f W h => V.v1 (V.x_len (V.eg h 17 82 rfl hp))
  ·refine V.gf 14 79 rfl rfl fun hp f W h => ?_
   have hw131 : IntKind.i64.wrap ((l.length : Int) - 1) = (l.length : Int) - 1 := by exact IntWalk.i64_in _ (by omega)
   exact V.v2 (.int .i64 ((l.length : Int) - 1)) (V.xb (V.eg h 18 83 rfl hp) rfl ((by kernel_rfl : _ = Result.ok (.int .i64 (IntKind.i64.wrap ((l.length : Int) - 1))) _).trans (by rw [hw131]))) rfl
  ·exact V.gf 14 79 rfl rfl fun hp f W h => V.v1 (V.xb (V.eg h 16 81 rfl hp) (V.eg h 19 84 rfl hp) ((by kernel_rfl : _ = Result.ok (.bool (((ms64.length : Int) != ((l.length : Int) - 1)))) _).trans (by rw [show (((ms64.length : Int) != ((l.length : Int) - 1))) = false from (by rw [show ((ms64.length : Nat) : Int) = ((l.length : Int) - 1) by omega, bne_self_eq_false])])))
  ·refine V.s1 rfl fun f W h => ?_
   have d85 := V.dp h 20 85 (by kernel_rfl) rfl
   exact V.x_pick_f (V.ed h 14 79 rfl) (V.ev_tmp rfl (V.gd_on d85 rfl))
  ·exact V.me rfl 21 86 rfl
  ·exact V.gf 22 87 rfl rfl fun hp f W h => V.v1 (V.xm (V.eo h 11 s11))
  ·exact V.gf 22 87 rfl rfl fun hp f W h => V.v1 (V.x_len (V.eg h 23 88 rfl hp))
  ·exact V.gf 22 87 rfl rfl fun hp f W h => V.v1 (V.xm (V.eo h 1 s1))
  ·exact V.gf 22 87 rfl rfl fun hp f W h => V.v1 (V.x_len (V.eg h 25 90 rfl hp))
  ·exact V.gf 22 87 rfl rfl fun hp f W h => V.v1 (V.xb (V.eg h 24 89 rfl hp) (V.eg h 26 91 rfl hp) ((by kernel_rfl : _ = Result.ok (.bool ((l.length : Int) != (l.length : Int))) _).trans (by rw [bne_self_eq_false])))
  ·refine V.s1 rfl fun f W h => ?_
   have d92 := V.dp h 27 92 (by kernel_rfl) rfl
   exact V.x_pick_f (V.ed h 22 87 rfl) (V.ev_tmp rfl (V.gd_on d92 rfl))
  ·exact V.me rfl 28 93 rfl
  ·exact V.gf 29 94 rfl rfl fun hp f W h => V.v1 (V.xm (V.eo h 13 s13))
  ·exact V.gf 29 94 rfl rfl fun hp f W h => V.v1 (V.x_len (V.eg h 30 95 rfl hp))
  ·exact V.gf 29 94 rfl rfl fun hp f W h => V.v1 (V.xm (V.eo h 7 s7))
  ·exact V.gf 29 94 rfl rfl fun hp f W h => V.v1 (V.x_len (V.eg h 32 97 rfl hp))
  ·exact V.gf 29 94 rfl rfl fun hp f W h => V.v1 (V.xb (V.eg h 31 96 rfl hp) (V.eg h 33 98 rfl hp) ((by kernel_rfl : _ = Result.ok (.bool ((ms64.length : Int) != (ms64.length : Int))) _).trans (by rw [bne_self_eq_false])))
  ·refine V.s1 rfl fun f W h => ?_
   have d99 := V.dp h 34 99 (by kernel_rfl) rfl
   exact V.x_pick_f (V.ed h 29 94 rfl) (V.ev_tmp rfl (V.gd_on d99 rfl))
 intro f132 W133 e134
 clear hl hfr hb r68 r69 r96 r97 r123 r124
 obtain ⟨⟨hl, hfr, hb, r68, r69, r96, r97, r123, r124⟩, z_⟩ := e134.g
 obtain ⟨s0, s1, s2, s6, s7, s11, s13⟩ := V.e7 e134 s0 s1 s2 s6 s7 s11 s13
 have s100 := V.es e134 35 100 rfl
 clear e134 z_
 refine V.t_done rfl (V.nx ?_)
 refine V.cond_f (V.ev_tmp rfl s100) ?_
 refine V.skip ?_
 refine V.nx (V.seq (V.seq ?_))
 refine V.reg 1 [V.E (.int .i64 0)] [] (V.i hl (V.i hfr (V.i hb (V.i r68 (V.i r69 (V.i r96 (V.i r97 (V.i r123 r124)))))))) ?_ ?_
 ·refine V.ac ?_ V.an
  ·exact V.z1 rfl fun h => V.xs rfl
 intro f135 W136 e137
 clear hl hfr hb r68 r69 r96 r97 r123 r124
 obtain ⟨⟨hl, hfr, hb, r68, r69, r96, r97, r123, r124⟩, z_⟩ := e137.g
 obtain ⟨s0, s1, s2, s6, s7, s11, s13⟩ := V.e7 e137 s0 s1 s2 s6 s7 s11 s13
 have s15 := V.es e137 0 15 rfl
 clear e137 z_
 refine V.t_done rfl (V.nx (V.block ?_))
 refine V.loop (fun k f W => ∃ i : Nat, (k = ms64.length - i ∧ (i ≤ ms64.length)) ∧ (f 1 = .slice A l.length c ∧ f 2 = .int .i64 (q : Int) ∧ f 7 = .slice A62 ms64.length c63 ∧ f 11 = .slice (some ⟨g90, 0, none⟩) l.length l.length ∧ f 13 = .slice (some ⟨g117, 0, none⟩) ms64.length ms64.length ∧ f 15 = .int .i64 (i : Int)) ∧ (Below w.heap.size w W ∧ Ls W 6 A l.length c (l.map Cl.cells) ∧ (∀ x ∈ l, Fr.ok W x.w) ∧ Ls W 6 A62 ms64.length c63 (ms64.map Cl.cells) ∧ (∀ x ∈ ms64, Fr.ok W x.w) ∧ Own W g90 39 4 (xs91.map Fr.cells) ([]) ∧ (∀ x ∈ xs91, Fr.ok W x) ∧ Own W g117 39 4 (xs118.map Fr.cells) ([]) ∧ (∀ x ∈ xs118, Fr.ok W x))) (ms64.length - 0) ⟨0, ⟨rfl, by omega⟩, ⟨s1, s2, s7, s11, s13, (s15.trans (by simp))⟩, ⟨hb, hl, hfr, r68, r69, r96, r97, r123, r124⟩⟩ ?_
 clear hl hfr hb r68 r69 r96 r97 r123 r124 s0 s1 s2 s6 s7 s11 s13 s15
 rintro k140 f138 W139 ⟨i, ⟨hk150, hil⟩, ⟨s1, s2, s7, s11, s13, s15⟩, ⟨r141, r142, r143, r144, r145, r146, r147, r148, r149⟩⟩
 refine V.seq (V.seq ?_)
 refine V.reg 4 [V.E (.int .i64 (i : Int)), V.E (.slice A62 ms64.length c63), V.E (.int .i64 (ms64.length : Int)), V.E (.bool (decide ((i : Int) < (ms64.length : Int))))] [] (V.i r141 (V.i r142 (V.i r143 (V.i r144 (V.i r145 (V.i r146 (V.i r147 (V.i r148 r149)))))))) ?_ ?_
 ·refine V.a4 ?_ ?_ ?_ ?_
  ·exact V.mo rfl 15 s15
  ·exact V.mo rfl 7 s7
  ·exact V.z1 rfl fun h => V.x_len (V.ed h 1 102 rfl)
  ·exact V.z1 rfl fun h => V.xb (V.ed h 0 101 rfl) (V.ed h 2 103 rfl)
 intro f151 W152 e153
 clear r141 r142 r143 r144 r145 r146 r147 r148 r149
 obtain ⟨⟨r141, r142, r143, r144, r145, r146, r147, r148, r149⟩, z_⟩ := e153.g
 obtain ⟨s1, s2, s7, s11, s13, s15⟩ := V.e6 e153 s1 s2 s7 s11 s13 s15
 have s104 := V.es e153 3 104 rfl
 clear e153 z_
 refine V.t_done rfl (V.nx ?_)
 cases hc154 : (decide ((i : Int) < (ms64.length : Int)))
 ·have s104_ : f151 104 = .bool false := s104.trans (by rw [hc154])
  refine V.cond_f (V.ev_tmp rfl s104_) ?_
  refine V.exit (V.tx (V.tx (V.bx (V.nx (V.seq ?_)))))
  refine V.reg 1 [V.E (.bool true)] [] (V.i r141 (V.i r142 (V.i r143 (V.i r144 (V.i r145 (V.i r146 (V.i r147 (V.i r148 r149)))))))) ?_ ?_
  ·refine V.ac ?_ V.an
   ·exact V.z1 rfl fun h => V.xs rfl
  intro f155 W156 e157
  clear r141 r142 r143 r144 r145 r146 r147 r148 r149
  obtain ⟨⟨r141, r142, r143, r144, r145, r146, r147, r148, r149⟩, z_⟩ := e157.g
  obtain ⟨s1, s2⟩ := V.e2 e157 s1 s2
  have s6 := V.es e157 0 6 rfl
  clear e157 z_
  refine V.t_done rfl (V.nx (V.ret ?_))
  refine V.leave_any (.inl rfl) (V.res_tmp rfl rfl s6) ?_
  exact ⟨rfl, r141⟩
 ·have s104_ : f151 104 = .bool true := s104.trans (by rw [hc154])
  refine V.cond_t (V.ev_tmp rfl s104_) ?_
  have hi : i < ms64.length := by have := of_decide_eq_true hc154; omega
  obtain ⟨y, my, ey, ey_⟩ := V.at_map Cl.cells (l := ms64) (i := i) hi
  have gy := hVm.g y my
  have fy := r145 y my
  obtain ⟨z2, mz2, ez2, ez2_⟩ := V.at_map Fr.cells (l := xs118) (i := i) (by rw [n126.len]; exact hi)
  have fz2 := r149 z2 mz2
  refine V.skip ?_
  refine V.nx (V.seq (V.block (V.seq ?_)))
  refine V.reg 2 [V.E (.int .i64 (i : Int)), V.E (.int .i64 (i : Int))] [] (V.i r141 (V.i r142 (V.i r143 (V.i r144 (V.i r145 (V.i r146 (V.i r147 (V.i r148 (V.i r149 (V.i fy fz2)))))))))) ?_ ?_
  ·refine V.a2 ?_ ?_
   ·exact V.mo rfl 15 s15
   ·exact V.se rfl 0 107 rfl
  intro f158 W159 e160
  clear r141 r142 r143 r144 r145 r146 r147 r148 r149 fy fz2
  obtain ⟨⟨r141, r142, r143, r144, r145, r146, r147, r148, r149, fy, fz2⟩, z_⟩ := e160.g
  obtain ⟨s1, s2, s7, s11, s13, s15⟩ := V.e6 e160 s1 s2 s7 s11 s13 s15
  have s16 := V.es e160 1 16 rfl
  clear e160 z_
  refine V.t_done rfl (V.nx ?_)
  refine V.join (fun f W => ∃ k : Nat, (0 = 0 ∧ (k = if i < q then i else i + 1)) ∧ (f 1 = .slice A l.length c ∧ f 2 = .int .i64 (q : Int) ∧ f 7 = .slice A62 ms64.length c63 ∧ f 11 = .slice (some ⟨g90, 0, none⟩) l.length l.length ∧ f 13 = .slice (some ⟨g117, 0, none⟩) ms64.length ms64.length ∧ f 15 = .int .i64 (i : Int) ∧ f 16 = .int .i64 (k : Int)) ∧ (Below w.heap.size w W ∧ Ls W 6 A l.length c (l.map Cl.cells) ∧ (∀ x ∈ l, Fr.ok W x.w) ∧ Ls W 6 A62 ms64.length c63 (ms64.map Cl.cells) ∧ (∀ x ∈ ms64, Fr.ok W x.w) ∧ Own W g90 39 4 (xs91.map Fr.cells) ([]) ∧ (∀ x ∈ xs91, Fr.ok W x) ∧ Own W g117 39 4 (xs118.map Fr.cells) ([]) ∧ (∀ x ∈ xs118, Fr.ok W x) ∧ Fr.ok W y.w ∧ Fr.ok W z2)) ?_ ?_
  ·refine ?_
   refine V.seq ?_
   refine V.reg 3 [V.E (.int .i64 (i : Int)), V.E (.int .i64 (q : Int)), V.E (.bool (decide ((q : Int) ≤ (i : Int))))] [] (V.i r141 (V.i r142 (V.i r143 (V.i r144 (V.i r145 (V.i r146 (V.i r147 (V.i r148 (V.i r149 (V.i fy fz2)))))))))) ?_ ?_
   ·refine V.a3 ?_ ?_ ?_
    ·exact V.mo rfl 15 s15
    ·exact V.mo rfl 2 s2
    ·exact V.z1 rfl fun h => V.xb (V.ed h 0 108 rfl) (V.ed h 1 109 rfl)
   intro f161 W162 e163
   clear r141 r142 r143 r144 r145 r146 r147 r148 r149 fy fz2
   obtain ⟨⟨r141, r142, r143, r144, r145, r146, r147, r148, r149, fy, fz2⟩, z_⟩ := e163.g
   obtain ⟨s1, s2, s7, s11, s13, s15, s16⟩ := V.e7 e163 s1 s2 s7 s11 s13 s15 s16
   have s110 := V.es e163 2 110 rfl
   clear e163 z_
   refine V.t_done rfl (V.nx ?_)
   cases hc164 : (decide ((q : Int) ≤ (i : Int)))
   ·have s110_ : f161 110 = .bool false := s110.trans (by rw [hc164])
    refine V.cond_f (V.ev_tmp rfl s110_) ?_
    have hqi := hc164
    have hqi2 : i < q := by have := of_decide_eq_false hqi; omega
    replace s16 : f161 16 = .int .i64 ((i : Nat) : Int) := s16
    refine V.skip ?_
    exact ⟨_, rfl, ⟨i, ⟨rfl, by split <;> omega⟩, ⟨s1, s2, s7, s11, s13, s15, (s16.trans (by simp))⟩, ⟨r141, r142, r143, r144, r145, r146, r147, r148, r149, fy, fz2⟩⟩⟩
   ·have s110_ : f161 110 = .bool true := s110.trans (by rw [hc164])
    refine V.cond_t (V.ev_tmp rfl s110_) ?_
    have hqi := hc164
    have hqi2 : q ≤ i := by have := of_decide_eq_true hqi; omega
    refine V.reg 3 [V.E (.int .i64 (i : Int)), V.E (.int .i64 ((i : Int) + 1)), V.E (.int .i64 ((i : Int) + 1))] [] (V.i r141 (V.i r142 (V.i r143 (V.i r144 (V.i r145 (V.i r146 (V.i r147 (V.i r148 (V.i r149 (V.i fy fz2)))))))))) ?_ ?_
    ·refine V.a3 ?_ ?_ ?_
     ·exact V.mo rfl 15 s15
     ·refine V.s1 rfl fun f W h => ?_
      have hw165 : IntKind.i64.wrap ((i : Int) + 1) = (i : Int) + 1 := by exact IntWalk.i64_in _ (by omega)
      exact V.xb (V.ed h 0 111 rfl) rfl ((by kernel_rfl : _ = Result.ok (.int .i64 (IntKind.i64.wrap ((i : Int) + 1))) _).trans (by rw [hw165]))
     ·exact V.se rfl 1 112 rfl
    intro f166 W167 e168
    clear r141 r142 r143 r144 r145 r146 r147 r148 r149 fy fz2
    obtain ⟨⟨r141, r142, r143, r144, r145, r146, r147, r148, r149, fy, fz2⟩, z_⟩ := e168.g
    obtain ⟨s1, s2, s7, s11, s13, s15⟩ := V.e6 e168 s1 s2 s7 s11 s13 s15
    have s16 := V.es e168 2 16 rfl
    clear e168 z_
    refine V.t_done rfl ?_
    replace s16 : f166 16 = .int .i64 ((i + 1 : Nat) : Int) := s16.trans (by simp)
    exact ⟨_, rfl, ⟨(i + 1), ⟨rfl, by split <;> omega⟩, ⟨s1, s2, s7, s11, s13, s15, (s16.trans (by simp))⟩, ⟨r141, r142, r143, r144, r145, r146, r147, r148, r149, fy, fz2⟩⟩⟩
  ·clear r141 r142 r143 r144 r145 r146 r147 r148 r149 fy fz2 s1 s2 s7 s11 s13 s15 s16
   rintro f169 W170 ⟨k, ⟨-, hki⟩, ⟨s1, s2, s7, s11, s13, s15, s16⟩, ⟨r141, r142, r143, r144, r145, r146, r147, r148, r149, fy, fz2⟩⟩
   have hkl : k < l.length := by split at hki <;> omega
   obtain ⟨xk, mxk, exk, exk_⟩ := V.at_map Cl.cells (l := l) (i := k) hkl
   have gxk := hgood xk mxk
   have fxk := r143 xk mxk
   obtain ⟨z1, mz1, ez1, ez1_⟩ := V.at_map Fr.cells (l := xs91) (i := k) (by rw [n99.len]; exact hkl)
   have fz1 := r147 z1 mz1
   have hqk : l[if i < q then i else i + 1]? = some xk := by rw [← hki]; exact exk
   have hW := n70 i xk y hqk ey
   have hz1 := n99.q k xk z1 exk ez1
   have hz2 := n126.q i y z2 ey ez2
   have hle : z1.q ≤ z2.q := by rw [hz1, hz2]; exact WI.parts n70 n71 hq hgood (n98.is hgood h0) (n125.is hVm.g h0) hqk ey
   have zz1 : Q.Sz 256 z1.q := by rw [hz1]; exact (((Q.Sz.cap gxk.b0 gxk.b1).mono (by decide)).min ((n98.sz h1 hgood h20).mul gxk.s)).mono (by decide)
   have zz2 : Q.Sz 256 z2.q := by rw [hz2]; exact (((Q.Sz.cap gy.b0 gy.b1).mono (by decide)).min ((n125.sz h1 hVm.g hm20).mul gy.s)).mono (by decide)
   refine V.seq ?_
   refine V.reg 50 [V.E (.slice A62 ms64.length c63), V.E (.int .i64 (i : Int)), V.E (.pointer (some ((adr A62).add (i * 6 + 0)))), V.E (.pointer (some ((adr A62).add (i * 6 + 0)))), V.E (.int .i64 y.id), V.E (.slice A l.length c), V.E (.int .i64 (k : Int)), V.E (.pointer (some ((adr A).add (k * 6 + 0)))), V.E (.pointer (some ((adr A).add (k * 6 + 0)))), V.E (.int .i64 xk.id), V.E (.bool false), V.E (.bool false), (V.Gd (!false) (V.E (.slice A62 ms64.length c63))), (V.Gd (!false) (V.E (.int .i64 (i : Int)))), (V.Gd (!false) (V.E (.pointer (some ((adr A62).add (i * 6 + 0)))))), (V.Gd (!false) (V.E (.pointer (some ((adr A62).add (i * 6 + 5)))))), (V.Gd (!false) (V.E (.int .i64 y.cap))), (V.Gd (!false) (V.E (.slice A l.length c))), (V.Gd (!false) (V.E (.int .i64 (k : Int)))), (V.Gd (!false) (V.E (.pointer (some ((adr A).add (k * 6 + 0)))))), (V.Gd (!false) (V.E (.pointer (some ((adr A).add (k * 6 + 5)))))), (V.Gd (!false) (V.E (.int .i64 xk.cap))), (V.Gd (!false) (V.E (.bool false))), V.E (.bool false), V.E (.bool false), (V.Gd (!false) (V.E (.slice A62 ms64.length c63))), (V.Gd (!false) (V.E (.int .i64 (i : Int)))), (V.Gd (!false) (V.E (.pointer (some ((adr A62).add (i * 6 + 0)))))), (V.Gd (!false) (V.E (.pointer (some ((adr A62).add (i * 6 + 1)))))), (V.Gd (!false) (V.E (y.w.v))), (V.Gd (!false) (V.E (.slice A l.length c))), (V.Gd (!false) (V.E (.int .i64 (k : Int)))), (V.Gd (!false) (V.E (.pointer (some ((adr A).add (k * 6 + 0)))))), (V.Gd (!false) (V.E (.pointer (some ((adr A).add (k * 6 + 1)))))), (V.Gd (!false) (V.E (xk.w.v))), (V.Gd (!false) (V.E (.bool true))), (V.Gd (!false) (V.E (.bool false))), V.E (.bool false), V.E (.bool false), (V.Gd (!false) (V.E (.slice (some ⟨g90, 0, none⟩) l.length l.length))), (V.Gd (!false) (V.E (.int .i64 (k : Int)))), (V.Gd (!false) (V.E (.pointer (some ((adr (some ⟨g90, 0, none⟩)).add (k * 4 + 0)))))), (V.Gd (!false) (V.E (z1.v))), (V.Gd (!false) (V.E (.slice (some ⟨g117, 0, none⟩) ms64.length ms64.length))), (V.Gd (!false) (V.E (.int .i64 (i : Int)))), (V.Gd (!false) (V.E (.pointer (some ((adr (some ⟨g117, 0, none⟩)).add (i * 4 + 0)))))), (V.Gd (!false) (V.E (z2.v))), (V.Gd (!false) (V.E (.int .i64 (Q.cmp z1.q z2.q)))), (V.Gd (!false) (V.E (.bool false))), V.E (.bool false)] [] (V.i r141 (V.i r142 (V.i r143 (V.i r144 (V.i r145 (V.i r146 (V.i r147 (V.i r148 (V.i r149 (V.i fy (V.i fz2 (V.i fxk fz1)))))))))))) ?_ ?_
   ·refine V.b8 ?_ ?_ ?_ ?_ ?_ ?_ ?_ ?_ (V.b8 ?_ ?_ ?_ ?_ ?_ ?_ ?_ ?_ (V.b8 ?_ ?_ ?_ ?_ ?_ ?_ ?_ ?_ (V.b8 ?_ ?_ ?_ ?_ ?_ ?_ ?_ ?_ (V.b8 ?_ ?_ ?_ ?_ ?_ ?_ ?_ ?_ (V.b8 ?_ ?_ ?_ ?_ ?_ ?_ ?_ ?_ (V.a2 ?_ ?_))))))
    ·exact V.mo rfl 7 s7
    ·exact V.mo rfl 15 s15
    ·exact V.z1 rfl fun h => V.xi (i := i) h.g.1.2.2.2.1 ey_ (V.ed h 0 113 rfl) (V.ed h 1 114 rfl)
    ·exact V.z1 rfl fun h => V.x_fieldP (j := i * 6 + 0) (k := 0) (V.ed h 2 115 rfl) (fun _ => by kernel_rfl)
    ·exact V.z1 rfl fun h => V.xl (V.ed h 3 116 rfl) (V.ld_ls1 (i := i) (o := 0) h.g.1.2.2.2.1 ey_ rfl)
    ·exact V.mo rfl 1 s1
    ·exact V.mo rfl 16 s16
    ·exact V.z1 rfl fun h => V.xi (i := k) h.g.1.2.1 exk_ (V.ed h 5 118 rfl) (V.ed h 6 119 rfl)
    ·exact V.z1 rfl fun h => V.x_fieldP (j := k * 6 + 0) (k := 0) (V.ed h 7 120 rfl) (fun _ => by kernel_rfl)
    ·exact V.z1 rfl fun h => V.xl (V.ed h 8 121 rfl) (V.ld_ls1 (i := k) (o := 0) h.g.1.2.1 exk_ rfl)
    ·exact V.z1 rfl fun h => V.xb (V.ed h 4 117 rfl) (V.ed h 9 122 rfl) ((by kernel_rfl : _ = Result.ok (.bool ((y.id != xk.id))) _).trans (by rw [show ((y.id != xk.id)) = false from (by rw [hW.1, bne_self_eq_false])]))
    ·exact V.me rfl 10 123 rfl
    ·exact V.gf 11 124 rfl rfl fun hp f W h => V.v1 (V.xm (V.eo h 7 s7))
    ·exact V.gf 11 124 rfl rfl fun hp f W h => V.v1 (V.xm (V.eo h 15 s15))
    ·exact V.gf 11 124 rfl rfl fun hp f W h => V.v1 (V.xi (i := i) h.g.1.2.2.2.1 ey_ (V.eg h 12 125 rfl hp) (V.eg h 13 126 rfl hp))
    ·exact V.gf 11 124 rfl rfl fun hp f W h => V.v1 (V.x_fieldP (j := i * 6 + 0) (k := 5) (V.eg h 14 127 rfl hp) (fun _ => by kernel_rfl))
    ·exact V.gf 11 124 rfl rfl fun hp f W h => V.v1 (V.xl (V.eg h 15 128 rfl hp) (V.ld_ls1 (i := i) (o := 5) h.g.1.2.2.2.1 ey_ rfl))
    ·exact V.gf 11 124 rfl rfl fun hp f W h => V.v1 (V.xm (V.eo h 1 s1))
    ·exact V.gf 11 124 rfl rfl fun hp f W h => V.v1 (V.xm (V.eo h 16 s16))
    ·exact V.gf 11 124 rfl rfl fun hp f W h => V.v1 (V.xi (i := k) h.g.1.2.1 exk_ (V.eg h 17 130 rfl hp) (V.eg h 18 131 rfl hp))
    ·exact V.gf 11 124 rfl rfl fun hp f W h => V.v1 (V.x_fieldP (j := k * 6 + 0) (k := 5) (V.eg h 19 132 rfl hp) (fun _ => by kernel_rfl))
    ·exact V.gf 11 124 rfl rfl fun hp f W h => V.v1 (V.xl (V.eg h 20 133 rfl hp) (V.ld_ls1 (i := k) (o := 5) h.g.1.2.1 exk_ rfl))
    ·exact V.gf 11 124 rfl rfl fun hp f W h => V.v1 (V.xb (V.eg h 16 129 rfl hp) (V.eg h 21 134 rfl hp) ((by kernel_rfl : _ = Result.ok (.bool ((y.cap != xk.cap))) _).trans (by rw [show ((y.cap != xk.cap)) = false from (by rw [hW.2.1, bne_self_eq_false])])))
    ·refine V.s1 rfl fun f W h => ?_
     have d135 := V.dp h 22 135 (by kernel_rfl) rfl
     exact V.x_pick_f (V.ed h 11 124 rfl) (V.ev_tmp rfl (V.gd_on d135 rfl))
    ·exact V.me rfl 23 136 rfl
    ·exact V.gf 24 137 rfl rfl fun hp f W h => V.v1 (V.xm (V.eo h 7 s7))
    ·exact V.gf 24 137 rfl rfl fun hp f W h => V.v1 (V.xm (V.eo h 15 s15))
    ·exact V.gf 24 137 rfl rfl fun hp f W h => V.v1 (V.xi (i := i) h.g.1.2.2.2.1 ey_ (V.eg h 25 138 rfl hp) (V.eg h 26 139 rfl hp))
    ·exact V.gf 24 137 rfl rfl fun hp f W h => V.v1 (V.x_fieldP (j := i * 6 + 0) (k := 1) (V.eg h 27 140 rfl hp) (fun _ => by kernel_rfl))
    ·exact V.gf 24 137 rfl rfl fun hp f W h => V.v1 (V.xl (V.eg h 28 141 rfl hp) (V.ld_lsE (i := i) (o := 1) (cs := [.bool (Q.neg y.w.q), Vs y.w.A (Q.m y.w.q) y.w.c, .bool false, Vs y.w.A' y.w.q.den y.w.c']) h.g.1.2.2.2.1 ey_ Tryz.underlying39))
    ·exact V.gf 24 137 rfl rfl fun hp f W h => V.v1 (V.xm (V.eo h 1 s1))
    ·exact V.gf 24 137 rfl rfl fun hp f W h => V.v1 (V.xm (V.eo h 16 s16))
    ·exact V.gf 24 137 rfl rfl fun hp f W h => V.v1 (V.xi (i := k) h.g.1.2.1 exk_ (V.eg h 30 143 rfl hp) (V.eg h 31 144 rfl hp))
    ·exact V.gf 24 137 rfl rfl fun hp f W h => V.v1 (V.x_fieldP (j := k * 6 + 0) (k := 1) (V.eg h 32 145 rfl hp) (fun _ => by kernel_rfl))
    ·exact V.gf 24 137 rfl rfl fun hp f W h => V.v1 (V.xl (V.eg h 33 146 rfl hp) (V.ld_lsE (i := k) (o := 1) (cs := [.bool (Q.neg xk.w.q), Vs xk.w.A (Q.m xk.w.q) xk.w.c, .bool false, Vs xk.w.A' xk.w.q.den xk.w.c']) h.g.1.2.1 exk_ Tryz.underlying39))
    ·refine V.gf 24 137 rfl rfl fun hp f W h => ?_
     refine V.call en26 (V.args2 (V.eg h 29 142 rfl hp) (V.eg h 34 147 rfl hp)) (Calls.mono (Same_s h.g.1.2.2.2.2.2.2.2.2.2.1 h.g.1.2.2.2.2.2.2.2.2.2.2.2.1) ?_)
     rintro e W' ⟨e171, hb⟩
     rw [decide_eq_true (hW.2.2)] at e171
     subst e171
     exact ⟨_, rfl, rfl, hb⟩
    ·exact V.gf 24 137 rfl rfl fun hp f W h => V.v1 (V.x_un (V.eg h 35 148 rfl hp))
    ·refine V.s1 rfl fun f W h => ?_
     have d149 := V.dp h 36 149 (by kernel_rfl) rfl
     exact V.x_pick_f (V.ed h 24 137 rfl) (V.ev_tmp rfl (V.gd_on d149 rfl))
    ·exact V.me rfl 37 150 rfl
    ·exact V.gf 38 151 rfl rfl fun hp f W h => V.v1 (V.xm (V.eo h 11 s11))
    ·exact V.gf 38 151 rfl rfl fun hp f W h => V.v1 (V.xm (V.eo h 16 s16))
    ·exact V.gf 38 151 rfl rfl fun hp f W h => V.v1 (V.xi (i := k) (Own.lsn (n := l.length) (c := l.length) h.g.1.2.2.2.2.2.1 ⟨by rw [List.length_map, n99.len], Nat.le_refl _, by omega⟩) ez1_ (V.eg h 39 152 rfl hp) (V.eg h 40 153 rfl hp))
    ·exact V.gf 38 151 rfl rfl fun hp f W h => V.v1 (V.xl (V.eg h 41 154 rfl hp) (V.ld_lsE (i := k) (o := 0) (cs := [.bool (Q.neg z1.q), Vs z1.A (Q.m z1.q) z1.c, .bool false, Vs z1.A' z1.q.den z1.c']) (Own.lsn (n := l.length) (c := l.length) h.g.1.2.2.2.2.2.1 ⟨by rw [List.length_map, n99.len], Nat.le_refl _, by omega⟩) ez1_ Tryz.underlying39))
    ·exact V.gf 38 151 rfl rfl fun hp f W h => V.v1 (V.xm (V.eo h 13 s13))
    ·exact V.gf 38 151 rfl rfl fun hp f W h => V.v1 (V.xm (V.eo h 15 s15))
    ·exact V.gf 38 151 rfl rfl fun hp f W h => V.v1 (V.xi (i := i) (Own.lsn (n := ms64.length) (c := ms64.length) h.g.1.2.2.2.2.2.2.2.1 ⟨by rw [List.length_map, n126.len], Nat.le_refl _, by omega⟩) ez2_ (V.eg h 43 156 rfl hp) (V.eg h 44 157 rfl hp))
    ·exact V.gf 38 151 rfl rfl fun hp f W h => V.v1 (V.xl (V.eg h 45 158 rfl hp) (V.ld_lsE (i := i) (o := 0) (cs := [.bool (Q.neg z2.q), Vs z2.A (Q.m z2.q) z2.c, .bool false, Vs z2.A' z2.q.den z2.c']) (Own.lsn (n := ms64.length) (c := ms64.length) h.g.1.2.2.2.2.2.2.2.1 ⟨by rw [List.length_map, n126.len], Nat.le_refl _, by omega⟩) ez2_ Tryz.underlying39))
    ·refine V.gf 38 151 rfl rfl fun hp f W h => ?_
     refine V.call en19 (V.args2 (V.eg h 42 155 rfl hp) (V.eg h 46 159 rfl hp)) (Calls.mono (Cmp_s h.g.1.2.2.2.2.2.2.2.2.2.2.2.2 h.g.1.2.2.2.2.2.2.2.2.2.2.1 zz1 zz2) ?_)
     rintro e W' ⟨rfl, hb⟩
     exact ⟨_, rfl, rfl, hb⟩
    ·exact V.gf 38 151 rfl rfl fun hp f W h => V.v1 (V.xb (V.eg h 47 160 rfl hp) rfl ((by kernel_rfl : _ = Result.ok (.bool (decide (0 < (Q.cmp z1.q z2.q)))) _).trans (by rw [show (decide (0 < (Q.cmp z1.q z2.q))) = false from cmp_le0 hle])))
    ·refine V.s1 rfl fun f W h => ?_
     have d161 := V.dp h 48 161 (by kernel_rfl) rfl
     exact V.x_pick_f (V.ed h 38 151 rfl) (V.ev_tmp rfl (V.gd_on d161 rfl))
   intro f173 W174 e175
   clear r141 r142 r143 r144 r145 r146 r147 r148 r149 fy fz2 fxk fz1
   obtain ⟨⟨r141, r142, r143, r144, r145, r146, r147, r148, r149, fy, fz2, fxk, fz1⟩, z_⟩ := e175.g
   obtain ⟨s1, s2, s7, s11, s13, s15⟩ := V.e6 e175 s1 s2 s7 s11 s13 s15
   have s162 := V.es e175 49 162 rfl
   clear e175 z_
   refine V.t_done rfl (V.nx ?_)
   refine V.cond_f (V.ev_tmp rfl s162) ?_
   refine V.skip ?_
   refine V.bn (V.nx ?_)
   refine V.reg 3 [V.E (.int .i64 (i : Int)), V.E (.int .i64 ((i : Int) + 1)), V.E (.int .i64 ((i : Int) + 1))] [] (V.i r141 (V.i r142 (V.i r143 (V.i r144 (V.i r145 (V.i r146 (V.i r147 (V.i r148 (V.i r149 (V.i fy (V.i fz2 (V.i fxk fz1)))))))))))) ?_ ?_
   ·refine V.a3 ?_ ?_ ?_
    ·exact V.mo rfl 15 s15
    ·refine V.s1 rfl fun f W h => ?_
     have hw176 : IntKind.i64.wrap ((i : Int) + 1) = (i : Int) + 1 := by exact IntWalk.i64_in _ (by omega)
     exact V.xb (V.ed h 0 105 rfl) rfl ((by kernel_rfl : _ = Result.ok (.int .i64 (IntKind.i64.wrap ((i : Int) + 1))) _).trans (by rw [hw176]))
    ·exact V.se rfl 1 106 rfl
   intro f177 W178 e179
   clear r141 r142 r143 r144 r145 r146 r147 r148 r149 fy fz2 fxk fz1
   obtain ⟨⟨r141, r142, r143, r144, r145, r146, r147, r148, r149, fy, fz2, fxk, fz1⟩, z_⟩ := e179.g
   obtain ⟨s1, s2, s7, s11, s13⟩ := V.e5 e179 s1 s2 s7 s11 s13
   have s15 := V.es e179 2 15 rfl
   clear e179 z_
   refine V.t_done rfl ?_
   refine V.handed (ms64.length - (i + 1)) (by have := hk150; omega) ⟨(i + 1), ⟨rfl, by omega⟩, ⟨s1, s2, s7, s11, s13, (s15.trans (by simp))⟩, ⟨r141, r142, r143, r144, r145, r146, r147, r148, r149⟩⟩
end Go.Proofs.YtjbcalbbhomkjaaGreat
namespace Go.Proofs.YtjbcalbbhomkjaaGreat
open Go.ChangeShapes Go.WideShapes Go.ChangeAt Go.RowKit Go.Deep
theorem leaves_law {a b : Int} {A : Option Addr} {c : Nat} {l : List Rc} {w : World} (hl : Ls w 6 A l.length c (l.map Rc.cells)) (hfr : ∀ x ∈ l, Rc.ok w x) :
  Calls Tryz.prog 10 #[.int .i64 a, .slice A l.length c, .int .i64 b] w fun e w' => e = .returned (.bool true) ∧ Below w.heap.size w w' := by
 cases h : usableB a l with
 | false => exact leaves_no1 hl hfr h
 | true =>
  by_cases hb0 : b < 0
  ·exact leaves_no2 hl hfr h hb0
  ·by_cases hb1 : (l.length : Int) ≤ b
   ·exact leaves_no3 hl hfr h (by omega) hb1
   ·obtain ⟨k, rfl, hV, h10, h0, h1⟩ := usable_typed hfr h
    rw [List.length_map] at hl hb1 ⊢
    obtain ⟨q, rfl⟩ : ∃ q : Nat, b = (q : Int) := ⟨b.toNat, by omega⟩
    exact leaves_yes (typed_ls hl) (typed_ok hfr) hV h10 h0 h1 (by omega)
set_option maxRecDepth 100000 in
theorem leaves_lifted (os : Os) (started : os.Started) (H : Type) (enc : TypeId × Value → H) :
  ReturnsInHanded {} Tryz.checked os 10 .any (Rows.survivorLeavesSpec.pre6 enc Tryz.prog Tryz.f10 Rows.survivorLeavesRow.domain false) (Rows.survivorLeavesSpec.post enc Tryz.prog Tryz.f10 false true false false) := by
 refine returnsInHanded_of_change (C := Tryz.checked) Tryz.own started (by kernel_rfl) Tryz.func10
  (ChangeSpec.witness6 (enc := enc) (C := Tryz.checked) false ⟨#[], #[.int .i64 0, .slice none 0 0, .int .i64 0], []⟩ 8 (by kernel_rfl) (by kernel_rfl) (by kernel_rfl) (by kernel_rfl)) ?_
 intro W base args ds gs before hval0 hW hcnd _
 have hval : ∀ (j : Nat) t v, Tryz.f10.params[j]? = some t → args[j]? = some v → Value.okWide Tryz.prog W .any base t v := hval0
 have hW' := hW
 obtain ⟨p, q, hA0, hV, rfl, hfz, hnd⟩ := hW
 have hA : DataW.TrodAll enc Tryz.prog W 0 (fun _ => true) true Tryz.f10.params.toList args.toList ds p := hA0
 rw [Tryz.params10] at hA hval
 obtain ⟨v0, v1, v2, d0, d1, d2, p0, p1, p2, rfl, rfl, rfl, h0, h1, h2⟩ := trodAll_three hA
 obtain ⟨rfl, rfl⟩ := trodVars_none hV
 obtain ⟨a, rfl, rfl, rfl, wa⟩ := open_int Tryz.underlying3 (hval 0 3 v0 rfl rfl) h0
 obtain ⟨A', n', c', rfl⟩ := okWide_slice Tryz.underlying22 (hval 1 22 v1 rfl rfl)
 have h1k := h1
 obtain ⟨fuel, hf⟩ := h1
 obtain ⟨A, c, l, hcs, hl, hfr⟩ := open_claims hf
 obtain ⟨rfl, rfl, rfl⟩ : A' = A ∧ n' = l.length ∧ c' = c := by simpa [Value.cells] using hcs
 obtain ⟨b, rfl, rfl, rfl, wb⟩ := open_int Tryz.underlying3 (hval 2 3 v2 rfl rfl) h2
 have hlt : ∀ x ∈ p1, x.block < W.heap.size := fun x hx => hW'.lt x (by simpa using hx)
 refine (leaves_law (a := a) (b := b) hl hfr ).mono fun e W' ⟨he, hB⟩ => ?_
 subst he
 exact ⟨_, rfl, _, _, _, [], _, [], hW', trodAll_mk1 (shut_bool Tryz.underlying4 true), trodAll_mk3 (shut_int Tryz.underlying3 wa) (Below.trod Tryz.laidOut (by kernel_rfl) (of_decide_eq_true (by kernel_rfl)) h1k hB hlt) (shut_int Tryz.underlying3 wb), rfl, hB.frame _, fun h => by cases h⟩
theorem leaves_holds : Rows.SurvivorLeavesSaid :=
 OpenClaim.holds_of_wide 10 Tryz.f10 rfl rfl rfl rfl rfl rfl rfl ⟨rfl, rfl, rfl, rfl, rfl⟩ rfl rfl rfl rfl rfl (by kernel_rfl) Tryz.func10 (by kernel_rfl)
  (of_decide_eq_true (by kernel_rfl)) (by unfold Func.isWrapper; first | (rw [if_pos (by decide +kernel)]; kernel_rfl) | (rw [if_neg (by decide +kernel)]; exact ⟨rfl, rfl⟩))
  (fun os started H enc _ => leaves_lifted os started H enc)
#print axioms leaves_holds
end Go.Proofs.YtjbcalbbhomkjaaGreat
