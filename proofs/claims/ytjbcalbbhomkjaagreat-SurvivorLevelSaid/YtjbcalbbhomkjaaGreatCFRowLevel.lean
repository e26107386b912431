/- PROVED: SurvivorLevel answers true for every amount, every list of claims and all numbers, and leaves its arguments as they were. No condition. -/
import Derived.Test.YtjbcalbbhomkjaaGreatCZ4
set_option maxRecDepth 20000
set_option maxHeartbeats 2000000
namespace Go.Proofs.YtjbcalbbhomkjaaGreat
open Go.RowKit
attribute [local irreducible] RI.frame RI.act RI.Ob RI.Tail RI.out V.Wp V.Fn Oper.wp
theorem en63 : En 63 := enters_of Tryz.func63 (by kernel_rfl) rfl
theorem en103 : En 103 := enters_of Tryz.func103 (by kernel_rfl) rfl
theorem Eq16 {A B : Option Addr} {c d : Nat} {xs ys : List Nat} {w : World} (hl : Ls w 1 A xs.length c (xs.map U16)) (hm : Ls w 1 B ys.length d (ys.map U16)) :
    Calls Tryz.prog 103 #[.slice A xs.length c, .slice B ys.length d] w fun e w' => e = .returned (.bool (decide (xs = ys))) ∧ Below w.heap.size w w' := by
 have hmx : xs.length ≤ 9223372036854775807 := Nat.le_trans hl.cap hl.max
 refine V.enter Tryz.func103 rfl rfl (by simp) fun f0 hf => ?_
 have s0 : f0 0 = .slice A xs.length c := hf 0 (by simp)
 have s1 : f0 1 = .slice B ys.length d := hf 1 (by simp)
 clear hf
 have hb : Below w.heap.size w w := Below.refl _ _
 refine V.seq ?_
 refine V.reg 1 [V.E (.bool false)] [] (V.i hl (V.i hm hb)) ?_ ?_
 ·refine V.ac ?_ V.an
  ·exact V.z1 rfl fun h => V.xs rfl
 intro f1 W2 hE3
 clear hl hm hb
 obtain ⟨⟨hl, hm, hb⟩, hsz⟩ := hE3.g
 obtain ⟨s0, s1⟩ := V.e2 hE3 s0 s1
 have s4 := V.es hE3 0 4 rfl
 clear hE3 hsz
 refine V.t_done rfl (V.nx (V.seq (V.seq ?_)))
 refine V.reg 5 [V.E (.slice A xs.length c), V.E (.int .i64 (xs.length : Int)), V.E (.slice B ys.length d), V.E (.int .i64 (ys.length : Int)), V.E (.bool ((xs.length : Int) != (ys.length : Int)))] [] (V.i hl (V.i hm hb)) ?_ ?_
 ·refine V.ac ?_ (V.ac ?_ (V.ac ?_ (V.ac ?_ (V.ac ?_ V.an))))
  ·exact V.z1 rfl fun h => V.xm (V.eo h 0 s0)
  ·exact V.z1 rfl fun h => V.x_len (V.ed h 0 6 rfl)
  ·exact V.z1 rfl fun h => V.xm (V.eo h 1 s1)
  ·exact V.z1 rfl fun h => V.x_len (V.ed h 2 8 rfl)
  ·exact V.z1 rfl fun h => V.xb (V.ed h 1 7 rfl) (V.ed h 3 9 rfl)
 intro f4 W5 hE6
 clear hl hm hb
 obtain ⟨⟨hl, hm, hb⟩, hsz⟩ := hE6.g
 obtain ⟨s0, s1, s4⟩ := V.e3 hE6 s0 s1 s4
 have s10 := V.es hE6 4 10 rfl
 clear hE6 hsz
 refine V.t_done rfl (V.nx ?_)
 cases hc7 : ((xs.length : Int) != (ys.length : Int))
 ·have s10_ : f4 10 = .bool false := s10.trans (by rw [hc7])
  refine V.cond_f (V.ev_tmp rfl s10_) ?_
  have hne := hc7
  have hle : xs.length = ys.length := by simp at hne; omega
  refine V.skip ?_
  refine V.nx (V.seq (V.seq ?_))
  refine V.reg 3 [V.E (.slice A xs.length c), V.E (.int .i64 (xs.length : Int)), V.E (.int .i64 0)] [] (V.i hl (V.i hm hb)) ?_ ?_
  ·refine V.ac ?_ (V.ac ?_ (V.ac ?_ V.an))
   ·exact V.z1 rfl fun h => V.xm (V.eo h 0 s0)
   ·exact V.z1 rfl fun h => V.x_len (V.ed h 0 11 rfl)
   ·exact V.z1 rfl fun h => V.xm rfl
  intro f8 W9 hE10
  clear hl hm hb
  obtain ⟨⟨hl, hm, hb⟩, hsz⟩ := hE10.g
  obtain ⟨s0, s1, s4⟩ := V.e3 hE10 s0 s1 s4
  have s12 := V.es hE10 1 12 rfl
  have s13 := V.es hE10 2 13 rfl
  clear hE10 hsz
  refine V.t_done rfl (V.nx (V.block ?_))
  refine V.loop (fun k f W => ∃ i : Nat, (k = xs.length - i ∧ (i ≤ xs.length) ∧ (xs.take i = ys.take i)) ∧ (f 0 = .slice A xs.length c ∧ f 1 = .slice B ys.length d ∧ f 12 = .int .i64 (xs.length : Int) ∧ f 13 = .int .i64 (i : Int)) ∧ (Below w.heap.size w W ∧ Ls W 1 A xs.length c (xs.map U16) ∧ Ls W 1 B ys.length d (ys.map U16))) (xs.length - 0) ⟨0, ⟨rfl, by omega, by simp⟩, ⟨s0, s1, s12, (s13.trans (by simp))⟩, ⟨hb, hl, hm⟩⟩ ?_
  clear hl hm hb s0 s1 s4 s12 s13
  rintro k13 f11 W12 ⟨i, ⟨hk17, hil, hq⟩, ⟨s0, s1, s12, s13⟩, ⟨r14, r15, r16⟩⟩
  refine V.seq ?_
  refine V.reg 1 [V.E (.bool (decide ((i : Int) < (xs.length : Int))))] [] (V.i r14 (V.i r15 r16)) ?_ ?_
  ·refine V.ac ?_ V.an
   ·exact V.z1 rfl fun h => V.xb (V.eo h 13 s13) (V.eo h 12 s12)
  intro f18 W19 hE20
  clear r14 r15 r16
  obtain ⟨⟨r14, r15, r16⟩, hsz⟩ := hE20.g
  obtain ⟨s0, s1, s12, s13⟩ := V.e4 hE20 s0 s1 s12 s13
  have s14 := V.es hE20 0 14 rfl
  clear hE20 hsz
  refine V.t_done rfl (V.nx (V.seq ?_))
  cases hc21 : (decide ((i : Int) < (xs.length : Int)))
  ·have s14_ : f18 14 = .bool false := s14.trans (by rw [hc21])
   refine V.cond_f (V.ev_tmp rfl s14_) ?_
   have hi : i = xs.length := by have := of_decide_eq_false hc21; omega
   refine V.exit (V.tx (V.tx (V.bx (V.nx (V.seq ?_)))))
   refine V.reg 1 [V.E (.bool true)] [] (V.i r14 (V.i r15 r16)) ?_ ?_
   ·refine V.ac ?_ V.an
    ·exact V.z1 rfl fun h => V.xs rfl
   intro f22 W23 hE24
   clear r14 r15 r16
   obtain ⟨⟨r14, r15, r16⟩, hsz⟩ := hE24.g
   obtain ⟨s0, s1⟩ := V.e2 hE24 s0 s1
   have s4 := V.es hE24 0 4 rfl
   clear hE24 hsz
   refine V.t_done rfl (V.nx (V.ret ?_))
   refine V.leave_any (.inl rfl) (V.res_tmp rfl rfl s4) ?_
   exact ⟨by rw [show decide (xs = ys) = true from by rw [decide_eq_true]; rw [hi, List.take_length, hle, List.take_length] at hq; exact hq], r14⟩
  ·have s14_ : f18 14 = .bool true := s14.trans (by rw [hc21])
   refine V.cond_t (V.ev_tmp rfl s14_) ?_
   have hi : i < xs.length := by have := of_decide_eq_true hc21; omega
   obtain ⟨p, mp, ex, ex_⟩ := V.at_map U16 (l := xs) (i := i) hi
   obtain ⟨q, mq, ey, ey_⟩ := V.at_map U16 (l := ys) (i := i) (by omega)
   refine V.skip ?_
   refine V.nx (V.seq (V.block (V.seq ?_)))
   refine V.reg 2 [V.E (.int .i64 (i : Int)), V.E (.int .i64 (i : Int))] [] (V.i r14 (V.i r15 r16)) ?_ ?_
   ·refine V.ac ?_ (V.ac ?_ V.an)
    ·exact V.z1 rfl fun h => V.xm (V.eo h 13 s13)
    ·exact V.z1 rfl fun h => V.xs (V.ed h 0 15 rfl)
   intro f25 W26 hE27
   clear r14 r15 r16
   obtain ⟨⟨r14, r15, r16⟩, hsz⟩ := hE27.g
   obtain ⟨s0, s1, s12, s13⟩ := V.e4 hE27 s0 s1 s12 s13
   have s5 := V.es hE27 1 5 rfl
   clear hE27 hsz
   refine V.t_done rfl (V.nx (V.seq ?_))
   refine V.reg 9 [V.E (.slice A xs.length c), V.E (.int .i64 (i : Int)), V.E (.pointer (some ((adr A).add (i * 1 + 0)))), V.E (.int .u16 (p : Int)), V.E (.slice B ys.length d), V.E (.int .i64 (i : Int)), V.E (.pointer (some ((adr B).add (i * 1 + 0)))), V.E (.int .u16 (q : Int)), V.E (.bool ((p : Int) != (q : Int)))] [] (V.i r14 (V.i r15 r16)) ?_ ?_
   ·refine V.ac ?_ (V.ac ?_ (V.ac ?_ (V.ac ?_ (V.ac ?_ (V.ac ?_ (V.ac ?_ (V.ac ?_ (V.ac ?_ V.an))))))))
    ·exact V.z1 rfl fun h => V.xm (V.eo h 0 s0)
    ·exact V.z1 rfl fun h => V.xm (V.eo h 5 s5)
    ·exact V.z1 rfl fun h => V.xi (i := i) h.g.1.2.1 ex_ (V.ed h 0 16 rfl) (V.ed h 1 17 rfl)
    ·exact V.z1 rfl fun h => V.xl (V.ed h 2 18 rfl) (V.ld_ls1 (i := i) (o := 0) h.g.1.2.1 ex_ rfl)
    ·exact V.z1 rfl fun h => V.xm (V.eo h 1 s1)
    ·exact V.z1 rfl fun h => V.xm (V.eo h 5 s5)
    ·exact V.z1 rfl fun h => V.xi (i := i) h.g.1.2.2 ey_ (V.ed h 4 20 rfl) (V.ed h 5 21 rfl)
    ·exact V.z1 rfl fun h => V.xl (V.ed h 6 22 rfl) (V.ld_ls1 (i := i) (o := 0) h.g.1.2.2 ey_ rfl)
    ·exact V.z1 rfl fun h => V.xb (V.ed h 3 19 rfl) (V.ed h 7 23 rfl)
   intro f28 W29 hE30
   clear r14 r15 r16
   obtain ⟨⟨r14, r15, r16⟩, hsz⟩ := hE30.g
   obtain ⟨s0, s1, s12, s13⟩ := V.e4 hE30 s0 s1 s12 s13
   have s24 := V.es hE30 8 24 rfl
   clear hE30 hsz
   refine V.t_done rfl (V.nx ?_)
   cases hc31 : ((p : Int) != (q : Int))
   ·have s24_ : f28 24 = .bool false := s24.trans (by rw [hc31])
    refine V.cond_f (V.ev_tmp rfl s24_) ?_
    have hxy := hc31
    refine V.skip ?_
    refine V.bn (V.nx ?_)
    refine V.reg 2 [V.E (.int .i64 ((i : Int) + 1)), V.E (.int .i64 ((i : Int) + 1))] [] (V.i r14 (V.i r15 r16)) ?_ ?_
    ·refine V.ac ?_ (V.ac ?_ V.an)
     ·refine V.s1 rfl fun f W h => ?_
      have hw32 : IntKind.i64.wrap ((i : Int) + 1) = (i : Int) + 1 := by exact IntWalk.i64_in _ (by omega)
      exact V.xb (V.eo h 13 s13) rfl ((by kernel_rfl : _ = Result.ok (.int .i64 (IntKind.i64.wrap ((i : Int) + 1))) _).trans (by rw [hw32]))
     ·exact V.z1 rfl fun h => V.xm (V.ed h 0 25 rfl)
    intro f33 W34 hE35
    clear r14 r15 r16
    obtain ⟨⟨r14, r15, r16⟩, hsz⟩ := hE35.g
    obtain ⟨s0, s1, s12⟩ := V.e3 hE35 s0 s1 s12
    have s13 := V.es hE35 1 13 rfl
    clear hE35 hsz
    refine V.t_done rfl ?_
    refine V.handed (xs.length - (i + 1)) (by have := hk17; omega) ⟨(i + 1), ⟨rfl, by omega, by rw [List.take_add_one, List.take_add_one, hq, ex, ey, show p = q by simp at hxy; omega]⟩, ⟨s0, s1, s12, (s13.trans (by simp))⟩, ⟨r14, r15, r16⟩⟩
   ·have s24_ : f28 24 = .bool true := s24.trans (by rw [hc31])
    refine V.cond_t (V.ev_tmp rfl s24_) ?_
    have hxy := hc31
    refine V.seq ?_
    refine V.reg 1 [V.E (.bool false)] [] (V.i r14 (V.i r15 r16)) ?_ ?_
    ·refine V.ac ?_ V.an
     ·exact V.z1 rfl fun h => V.xs rfl
    intro f36 W37 hE38
    clear r14 r15 r16
    obtain ⟨⟨r14, r15, r16⟩, hsz⟩ := hE38.g
    obtain ⟨s0, s1, s12, s13⟩ := V.e4 hE38 s0 s1 s12 s13
    have s4 := V.es hE38 0 4 rfl
    clear hE38 hsz
    refine V.t_done rfl (V.nx (V.ret (V.br (V.tr (V.tr (V.br (V.tr ?_)))))))
    refine V.leave_any (.inl rfl) (V.res_tmp rfl rfl s4) ?_
    exact ⟨by rw [show decide (xs = ys) = false from by rw [decide_eq_false]; intro e; rw [e, ey] at ex; cases ex; simp at hxy], r14⟩
 ·have s10_ : f4 10 = .bool true := s10.trans (by rw [hc7])
  refine V.cond_t (V.ev_tmp rfl s10_) ?_
  have hne := hc7
  refine V.seq ?_
  refine V.reg 1 [V.E (.bool false)] [] (V.i hl (V.i hm hb)) ?_ ?_
  ·refine V.ac ?_ V.an
   ·exact V.z1 rfl fun h => V.xs rfl
  intro f39 W40 hE41
  clear hl hm hb
  obtain ⟨⟨hl, hm, hb⟩, hsz⟩ := hE41.g
  obtain ⟨s0, s1⟩ := V.e2 hE41 s0 s1
  have s4 := V.es hE41 0 4 rfl
  clear hE41 hsz
  refine V.t_done rfl (V.nx (V.ret (V.tr ?_)))
  refine V.leave_any (.inl rfl) (V.res_tmp rfl rfl s4) ?_
  exact ⟨by rw [show decide (xs = ys) = false from by rw [decide_eq_false]; intro e; rw [e] at hne; simp at hne], hb⟩
theorem WSame {A B : Option Addr} {c d : Nat} {n0 n1 : Bool} {xs ys : List Nat} {w : World} (hl : Ls w 1 A xs.length c (xs.map U16)) (hm : Ls w 1 B ys.length d (ys.map U16)) :
    Calls Tryz.prog 63 #[.agg #[.bool n0, .slice A xs.length c], .agg #[.bool n1, .slice B ys.length d]] w fun e w' => e = .returned (.bool (decide (n0 = n1 ∧ xs = ys))) ∧ Below w.heap.size w w' := by
 refine V.enter Tryz.func63 rfl rfl (by simp) fun f0 hf => ?_
 have s0 : f0 0 = .agg #[.bool n0, .slice A xs.length c] := hf 0 (by simp)
 have s1 : f0 1 = .agg #[.bool n1, .slice B ys.length d] := hf 1 (by simp)
 clear hf
 have hb : Below w.heap.size w w := Below.refl _ _
 refine V.seq ?_
 refine V.reg 3 [V.Nb w 35 #[.bool n0, .slice A xs.length c], V.Nb w 35 #[.bool n1, .slice B ys.length d], V.E (.bool false)] [0, 1] (V.i hl (V.i hm hb)) ?_ ?_
 ·refine V.ac ?_ (V.ac ?_ (V.ac ?_ V.an))
  ·exact V.sn rfl fun f W h => V.x_box (V.eo h 0 s0)
  ·exact V.sn rfl fun f W h => V.x_box (V.eo h 1 s1)
  ·exact V.z1 rfl fun h => V.xs rfl
 have o_bel := hb.size
 have ob_hl := hl.blt
 have ob_hm := hm.blt
 intro f44 W45 hE46
 clear hl hm hb
 obtain ⟨⟨hl, hm, hb⟩, hsz⟩ := hE46.g
 obtain ⟨s0, s1⟩ := V.e2 hE46 s0 s1
 obtain ⟨g42, s2, b_g42, l_g42⟩ := V.eq hE46 0 2 rfl
 obtain ⟨g43, s3, b_g43, l_g43⟩ := V.eq hE46 1 3 rfl
 have s4 := V.es hE46 2 4 rfl
 clear hE46 hsz
 clear o_bel ob_hl ob_hm
 refine V.t_done rfl (V.nx (V.seq ?_))
 refine V.reg 13 [V.E (Vp g42 0), V.E (.bool n0), V.E (Vp g43 0), V.E (.bool n1), V.E (.bool (n0 == n1)), V.E (.bool (n0 == n1)), (V.Gd (n0 == n1) (V.E (Vp g42 1))), (V.Gd (n0 == n1) (V.E (.slice A xs.length c))), (V.Gd (n0 == n1) (V.E (Vp g43 1))), (V.Gd (n0 == n1) (V.E (.slice B ys.length d))), (V.Gd (n0 == n1) (V.E (.bool (decide (xs = ys))))), V.E (.bool ((n0 == n1) && (decide (xs = ys)))), V.E (.bool ((n0 == n1) && (decide (xs = ys))))] [] (V.i hl (V.i hm (V.i hb (V.i b_g42 b_g43)))) ?_ ?_
 ·refine V.ac ?_ (V.ac ?_ (V.ac ?_ (V.ac ?_ (V.ac ?_ (V.ac ?_ (V.ac ?_ (V.ac ?_ (V.ac ?_ (V.ac ?_ (V.ac ?_ (V.ac ?_ (V.ac ?_ V.an))))))))))))
  ·exact V.z1 rfl fun h => V.xa (V.eo h 2 s2)
  ·exact V.z1 rfl fun h => V.xl (V.ed h 0 5 rfl) (V.lo h.g.1.2.2.2.1 rfl)
  ·exact V.z1 rfl fun h => V.xa (V.eo h 3 s3)
  ·exact V.z1 rfl fun h => V.xl (V.ed h 2 7 rfl) (V.lo h.g.1.2.2.2.2 rfl)
  ·exact V.z1 rfl fun h => V.xb (V.ed h 1 6 rfl) (V.ed h 3 8 rfl)
  ·exact V.z1 rfl fun h => V.xm (V.ed h 4 9 rfl)
  ·exact V.gt 5 10 rfl rfl fun hp f W h => V.v1 (V.xa (V.eo h 2 s2))
  ·exact V.gt 5 10 rfl rfl fun hp f W h => V.v1 (V.xl (V.eg h 6 11 rfl hp) (V.lo h.g.1.2.2.2.1 rfl))
  ·exact V.gt 5 10 rfl rfl fun hp f W h => V.v1 (V.xa (V.eo h 3 s3))
  ·exact V.gt 5 10 rfl rfl fun hp f W h => V.v1 (V.xl (V.eg h 8 13 rfl hp) (V.lo h.g.1.2.2.2.2 rfl))
  ·refine V.gt 5 10 rfl rfl fun hp f W h => ?_
   refine V.call en103 (V.args2 (V.eg h 7 12 rfl hp) (V.eg h 9 14 rfl hp)) (Calls.mono (Eq16 h.g.1.1 h.g.1.2.1) ?_)
   rintro e W' ⟨rfl, hb⟩
   exact ⟨_, rfl, rfl, hb⟩
  ·refine V.s1 rfl fun f W h => ?_
   have d15 := V.dp h 10 15 (by kernel_rfl) rfl
   exact V.x_and (V.ed h 5 10 rfl) (fun e => V.ev_tmp rfl (V.gd_on d15 e)) rfl
  ·exact V.z1 rfl fun h => V.xs (V.ed h 11 16 rfl)
 intro f47 W48 hE49
 clear hl hm hb b_g42 b_g43
 obtain ⟨⟨hl, hm, hb, b_g42, b_g43⟩, hsz⟩ := hE49.g
 obtain ⟨s0, s1⟩ := V.e2 hE49 s0 s1
 have s4 := V.es hE49 12 4 rfl
 clear hE49 hsz
 refine V.t_done rfl (V.nx (V.ret ?_))
 refine V.leave_any (.inl rfl) (V.res_tmp rfl rfl s4) ?_
 exact ⟨by cases n0 <;> cases n1 <;> simp, hb⟩
theorem Same_s {x y : Fr} {w : World} (hx : Fr.ok w x) (hy : Fr.ok w y) :
    Calls Tryz.prog 26 #[x.v, y.v] w fun e w' => e = .returned (.bool (decide (x.q = y.q))) ∧ Below w.heap.size w w' := by
 refine V.enter Tryz.func26 rfl rfl (by simp) fun f0 hf => ?_
 have s0 : f0 0 = x.v := hf 0 (by simp)
 have s1 : f0 1 = y.v := hf 1 (by simp)
 clear hf
 have hb : Below w.heap.size w w := Below.refl _ _
 refine V.seq ?_
 refine V.reg 3 [V.Nb w 39 x.cs, V.Nb w 39 y.cs, V.E (.bool false)] [0, 1] (V.i hx (V.i hy hb)) ?_ ?_
 ·refine V.ac ?_ (V.ac ?_ (V.ac ?_ V.an))
  ·exact V.sn rfl fun f W h => V.x_box (V.eo h 0 s0)
  ·exact V.sn rfl fun f W h => V.x_box (V.eo h 1 s1)
  ·exact V.z1 rfl fun h => V.xs rfl
 have o_bel := hb.size
 intro f52 W53 hE54
 clear hx hy hb
 obtain ⟨⟨hx, hy, hb⟩, hsz⟩ := hE54.g
 obtain ⟨s0, s1⟩ := V.e2 hE54 s0 s1
 obtain ⟨g50, s2, b_g50, l_g50⟩ := V.eq hE54 0 2 rfl
 obtain ⟨g51, s3, b_g51, l_g51⟩ := V.eq hE54 1 3 rfl
 have s4 := V.es hE54 2 4 rfl
 clear hE54 hsz
 clear o_bel
 refine V.t_done rfl (V.nx (V.seq ?_))
 refine V.reg 13 [V.E (Vp g50 0), V.E (.agg #[.bool (Q.neg x.q), Vs x.A (Q.m x.q) x.c]), V.E (Vp g51 0), V.E (.agg #[.bool (Q.neg y.q), Vs y.A (Q.m y.q) y.c]), V.E (.bool (decide ((Q.neg x.q) = (Q.neg y.q) ∧ (Lb.limbs (Q.m x.q)) = (Lb.limbs (Q.m y.q))))), V.E (.bool (decide ((Q.neg x.q) = (Q.neg y.q) ∧ (Lb.limbs (Q.m x.q)) = (Lb.limbs (Q.m y.q))))), (V.Gd (decide ((Q.neg x.q) = (Q.neg y.q) ∧ (Lb.limbs (Q.m x.q)) = (Lb.limbs (Q.m y.q)))) (V.E (Vp g50 2))), (V.Gd (decide ((Q.neg x.q) = (Q.neg y.q) ∧ (Lb.limbs (Q.m x.q)) = (Lb.limbs (Q.m y.q)))) (V.E (.agg #[.bool false, Vs x.A' x.q.den x.c']))), (V.Gd (decide ((Q.neg x.q) = (Q.neg y.q) ∧ (Lb.limbs (Q.m x.q)) = (Lb.limbs (Q.m y.q)))) (V.E (Vp g51 2))), (V.Gd (decide ((Q.neg x.q) = (Q.neg y.q) ∧ (Lb.limbs (Q.m x.q)) = (Lb.limbs (Q.m y.q)))) (V.E (.agg #[.bool false, Vs y.A' y.q.den y.c']))), (V.Gd (decide ((Q.neg x.q) = (Q.neg y.q) ∧ (Lb.limbs (Q.m x.q)) = (Lb.limbs (Q.m y.q)))) (V.E (.bool (decide (false = false ∧ (Lb.limbs x.q.den) = (Lb.limbs y.q.den)))))), V.E (.bool ((decide ((Q.neg x.q) = (Q.neg y.q) ∧ (Lb.limbs (Q.m x.q)) = (Lb.limbs (Q.m y.q)))) && (decide (false = false ∧ (Lb.limbs x.q.den) = (Lb.limbs y.q.den))))), V.E (.bool ((decide ((Q.neg x.q) = (Q.neg y.q) ∧ (Lb.limbs (Q.m x.q)) = (Lb.limbs (Q.m y.q)))) && (decide (false = false ∧ (Lb.limbs x.q.den) = (Lb.limbs y.q.den)))))] [] (V.i hx (V.i hy (V.i hb (V.i b_g50 b_g51)))) ?_ ?_
 ·refine V.ac ?_ (V.ac ?_ (V.ac ?_ (V.ac ?_ (V.ac ?_ (V.ac ?_ (V.ac ?_ (V.ac ?_ (V.ac ?_ (V.ac ?_ (V.ac ?_ (V.ac ?_ (V.ac ?_ V.an))))))))))))
  ·exact V.z1 rfl fun h => V.xa (V.eo h 2 s2)
  ·exact V.z1 rfl fun h => V.xl (V.ed h 0 5 rfl) (V.ld_mid (xs := [.bool (Q.neg x.q), Vs x.A (Q.m x.q) x.c]) h.g.1.2.2.2.1 (by intro j hj; match j, hj with | 0, _ => rfl | 1, _ => rfl) Tryz.underlying35)
  ·exact V.z1 rfl fun h => V.xa (V.eo h 3 s3)
  ·exact V.z1 rfl fun h => V.xl (V.ed h 2 7 rfl) (V.ld_mid (xs := [.bool (Q.neg y.q), Vs y.A (Q.m y.q) y.c]) h.g.1.2.2.2.2 (by intro j hj; match j, hj with | 0, _ => rfl | 1, _ => rfl) Tryz.underlying35)
  ·refine V.s2 rfl fun f W h => ?_
   refine V.call en63 (V.args2 (V.ed h 1 6 rfl) (V.ed h 3 8 rfl)) (Calls.mono (WSame (R16.ls h.g.1.1.n) (R16.ls h.g.1.2.1.n)) ?_)
   rintro e W' ⟨rfl, hb⟩
   exact ⟨_, rfl, rfl, hb⟩
  ·exact V.z1 rfl fun h => V.xm (V.ed h 4 9 rfl)
  ·exact V.gt 5 10 rfl rfl fun hp f W h => V.v1 (V.xa (V.eo h 2 s2))
  ·exact V.gt 5 10 rfl rfl fun hp f W h => V.v1 (V.xl (V.eg h 6 11 rfl hp) (V.ld_mid (xs := [.bool false, Vs x.A' x.q.den x.c']) h.g.1.2.2.2.1 (by intro j hj; match j, hj with | 0, _ => rfl | 1, _ => rfl) Tryz.underlying35))
  ·exact V.gt 5 10 rfl rfl fun hp f W h => V.v1 (V.xa (V.eo h 3 s3))
  ·exact V.gt 5 10 rfl rfl fun hp f W h => V.v1 (V.xl (V.eg h 8 13 rfl hp) (V.ld_mid (xs := [.bool false, Vs y.A' y.q.den y.c']) h.g.1.2.2.2.2 (by intro j hj; match j, hj with | 0, _ => rfl | 1, _ => rfl) Tryz.underlying35))
  ·refine V.gt 5 10 rfl rfl fun hp f W h => ?_
   refine V.call en63 (V.args2 (V.eg h 7 12 rfl hp) (V.eg h 9 14 rfl hp)) (Calls.mono (WSame (R16.ls h.g.1.1.d) (R16.ls h.g.1.2.1.d)) ?_)
   rintro e W' ⟨rfl, hb⟩
   exact ⟨_, rfl, rfl, hb⟩
  ·refine V.s1 rfl fun f W h => ?_
   have d15 := V.dp h 10 15 (by kernel_rfl) rfl
   exact V.x_and (V.ed h 5 10 rfl) (fun e => V.ev_tmp rfl (V.gd_on d15 e)) rfl
  ·exact V.z1 rfl fun h => V.xs (V.ed h 11 16 rfl)
 intro f55 W56 hE57
 clear hx hy hb b_g50 b_g51
 obtain ⟨⟨hx, hy, hb, b_g50, b_g51⟩, hsz⟩ := hE57.g
 obtain ⟨s0, s1⟩ := V.e2 hE57 s0 s1
 have s4 := V.es hE57 12 4 rfl
 clear hE57 hsz
 refine V.t_done rfl (V.nx (V.ret ?_))
 refine V.leave_any (.inl rfl) (V.res_tmp rfl rfl s4) ?_
 exact ⟨by rw [same_q], hb⟩
end Go.Proofs.YtjbcalbbhomkjaaGreat
namespace Go.Proofs.YtjbcalbbhomkjaaGreat
def Dn (D : Nat) (q : Rat) : Prop := ∃ z : Int, q * ((D : Nat) : Rat) = (z : Rat)
theorem nat_mul (a b : Nat) : (((a * b : Nat)) : Rat) = ((a : Nat) : Rat) * ((b : Nat) : Rat) := by
 have := Rat.intCast_mul (a : Int) (b : Int)
 simp
theorem Dn.add {D : Nat} {a b : Rat} (h : Dn D a) (h' : Dn D b) : Dn D (a + b) := by
 obtain ⟨x, hx⟩ := h
 obtain ⟨y, hy⟩ := h'
 exact ⟨x + y, by rw [Rat.add_mul, hx, hy, Rat.intCast_add]⟩
theorem Dn.int (D : Nat) (z : Int) : Dn D (z : Rat) := ⟨z * (D : Int), by rw [Rat.intCast_mul]; rfl⟩
theorem Dn.mul {D E : Nat} {a b : Rat} (h : Dn D a) (h' : Dn E b) : Dn (D * E) (a * b) := by
 obtain ⟨x, hx⟩ := h
 obtain ⟨y, hy⟩ := h'
 exact ⟨x * y, by rw [nat_mul, Rat.intCast_mul, ← hx, ← hy]; grind⟩
theorem Dn.dvd {D E : Nat} {a : Rat} (h : Dn D a) (hd : D ∣ E) : Dn E a := by
 obtain ⟨x, hx⟩ := h
 obtain ⟨k, rfl⟩ := hd
 exact ⟨x * (k : Int), by rw [nat_mul, Rat.intCast_mul, ← hx]; show _ = a * ((D : Nat) : Rat) * ((k : Nat) : Rat); grind⟩
theorem q_den (q : Rat) : q * ((q.den : Nat) : Rat) = ((q.num : Int) : Rat) := by
 have h := Rat.mkRat_self q
 rw [Rat.mkRat_eq_div] at h
 have h0 : ((q.den : Nat) : Rat) ≠ 0 := fun h => q.den_nz (Rat.natCast_eq_zero_iff.1 h)
 have h1 := Rat.div_mul_cancel (a := (q.num : Rat)) h0
 rw [h] at h1
 exact h1
theorem Dn.den (q : Rat) : Dn q.den q := ⟨q.num, q_den q⟩
theorem Dn.den_dvd {D : Nat} {q : Rat} (h : Dn D q) : q.den ∣ D := by
 obtain ⟨z, hz⟩ := h
 have hn' := q_den q
 have h1 : (((q.num * (D : Int) : Int)) : Rat) = ((z * (q.den : Int) : Int) : Rat) := by
  rw [Rat.intCast_mul, Rat.intCast_mul, ← hz, ← hn']
  show q * ((q.den : Nat) : Rat) * ((D : Nat) : Rat) = q * ((D : Nat) : Rat) * ((q.den : Nat) : Rat)
  grind
 have h2 := Rat.intCast_inj.1 h1
 have h3 : (q.den : Int) ∣ q.num * (D : Int) := ⟨z, by rw [h2, Int.mul_comm]⟩
 have h4 : q.den ∣ q.num.natAbs * D := by
  have := Int.natAbs_dvd_natAbs.2 h3
  simpa [Int.natAbs_mul] using this
 exact (Nat.Coprime.symm q.reduced).dvd_of_dvd_mul_left h4
theorem Dn.sz {D k : Nat} {q : Rat} {B : Int} (h : Dn D q) (h0 : 0 < D) (hD : D < 65536 ^ k) (hq : 0 ≤ q) (hB : q ≤ (B : Rat)) (hB3 : B < 65536 ^ 3) : Q.Sz (3 + k) q := by
 have hle : q.den ≤ D := Nat.le_of_dvd h0 h.den_dvd
 have hd : q.den < 65536 ^ k := Nat.lt_of_le_of_lt hle hD
 have hn : q.num ≤ B * (q.den : Int) := by
  have := (Rat.le_iff q (B : Rat)).1 hB
  rw [Rat.den_intCast, Rat.num_intCast] at this
  simpa using this
 have hn0 : 0 ≤ q.num := Rat.num_nonneg.2 hq
 have hB0 : 0 ≤ B := by
  have := Rat.le_trans hq hB
  exact Rat.intCast_nonneg.1 this
 refine ⟨?_, Nat.lt_of_lt_of_le hd (Nat.pow_le_pow_right (by decide) (by omega))⟩
 unfold Q.m
 have h1 : q.num.natAbs ≤ B.toNat * q.den := by
  have : (q.num.natAbs : Int) ≤ ((B.toNat * q.den : Nat) : Int) := by
   rw [Int.natCast_mul, Int.toNat_of_nonneg hB0, Int.natAbs_of_nonneg hn0]; exact hn
  exact Int.ofNat_le.1 this
 have h2 : B.toNat < 65536 ^ 3 := by omega
 rw [Nat.pow_add]
 exact Nat.lt_of_le_of_lt h1 (Nat.mul_lt_mul'' h2 hd)
def dprod : List Cl → Nat
 | [] => 1
 | x :: r => x.w.q.den * dprod r
theorem dprod_lt {l : List Cl} (hg : ∀ x ∈ l, x.good) : 0 < dprod l ∧ dprod l < 65536 ^ (4 * l.length + 1) := by
 induction l with
 | nil => exact ⟨by decide, by decide⟩
 | cons x r ih =>
  obtain ⟨h1, h2⟩ := ih fun y hy => hg y (by simp [hy])
  have h3 := (hg x (by simp)).s.d
  refine ⟨Nat.mul_pos (Nat.pos_of_ne_zero x.w.q.den_nz) h1, ?_⟩
  rw [List.length_cons, show 4 * (r.length + 1) + 1 = 4 + (4 * r.length + 1) by omega, Nat.pow_add]
  exact Nat.mul_lt_mul'' h3 h2
theorem S_dn {t : Rat} {l : List Cl} : Dn (t.den * dprod l) (S t l) := by
 induction l with
 | nil => exact ⟨0, by simp [S, Rat.zero_mul]⟩
 | cons x r ih =>
  refine Dn.add ?_ (ih.dvd ⟨x.w.q.den, by show t.den * (x.w.q.den * dprod r) = _; rw [Nat.mul_comm x.w.q.den, Nat.mul_assoc]⟩)
  rcases (Rat.le_total : ((x.cap : Int) : Rat) ≤ t * x.w.q ∨ t * x.w.q ≤ ((x.cap : Int) : Rat)) with h | h
  ·rw [rmin_l h]; exact Dn.int _ _
  ·rw [rmin_r h]; exact ((Dn.den t).mul (Dn.den x.w.q)).dvd ⟨dprod r, by show t.den * (x.w.q.den * dprod r) = _; rw [Nat.mul_assoc]⟩
theorem S_nonneg {t : Rat} {l : List Cl} (ht : 0 ≤ t) (hg : ∀ x ∈ l, x.good) : 0 ≤ S t l := by
 induction l with
 | nil => exact Rat.le_refl
 | cons x r ih =>
  have h1 := ih fun y hy => hg y (by simp [hy])
  have h2 := Rat.mul_nonneg ht (hg x (by simp)).p
  have h3 : (0 : Rat) ≤ ((x.cap : Int) : Rat) := Rat.intCast_nonneg.2 (hg x (by simp)).b0
  simp only [S]; grind
theorem S_csum {t : Rat} {l : List Cl} : S t l ≤ ((csum l : Int) : Rat) := by
 induction l with
 | nil => exact Rat.le_refl
 | cons x r ih =>
  simp only [S, csum, Rat.intCast_add]
  have : min ((x.cap : Int) : Rat) (t * x.w.q) ≤ ((x.cap : Int) : Rat) := by grind
  grind
theorem csum_le {l : List Cl} (hg : ∀ x ∈ l, x.good) : csum l ≤ 1099511627776 * (l.length : Int) := by
 induction l with
 | nil => exact Int.le_refl _
 | cons x r ih =>
  have h1 := ih fun y hy => hg y (by simp [hy])
  have h2 := (hg x (by simp)).b1
  simp only [csum, List.length_cons]; omega
theorem S_sz {t : Rat} {l : List Cl} (ht : 0 ≤ t) (st : Q.Sz 100 t) (hg : ∀ x ∈ l, x.good) (h10 : l.length ≤ 10) : Q.Sz 144 (S t l) := by
 obtain ⟨h1, h2⟩ := dprod_lt hg
 have h3 : dprod l < 65536 ^ 41 := Nat.lt_of_lt_of_le h2 (Nat.pow_le_pow_right (by decide) (by omega))
 have h4 := csum_le hg
 have := (S_dn (t := t) (l := l)).sz (k := 141) (Nat.mul_pos (Nat.pos_of_ne_zero t.den_nz) h1) (by rw [show (141 : Nat) = 100 + 41 by decide, Nat.pow_add]; exact Nat.mul_lt_mul'' st.d h3) (S_nonneg ht hg) S_csum (by omega)
 exact this
theorem S_take {t : Rat} {l : List Cl} {i : Nat} {x : Cl} (h : l[i]? = some x) : S t (l.take (i + 1)) = S t (l.take i) + min ((x.cap : Int) : Rat) (t * x.w.q) := by
 rw [List.take_add_one, h, S_append]
 simp only [Option.toList, S, Rat.add_zero]
end Go.Proofs.YtjbcalbbhomkjaaGreat
namespace Go.Proofs.YtjbcalbbhomkjaaGreat
open Go.RowKit
attribute [local irreducible] RI.frame RI.act RI.Ob RI.Tail RI.out V.Wp V.Fn Oper.wp
theorem en27 : En 27 := enters_of Tryz.func27 (by kernel_rfl) rfl
theorem cmp_gt {a b : Rat} (h : decide ((0 : Int) < Q.cmp a b) = true) : b ≤ a := by
  unfold Q.cmp at h
  split at h
  · simp at h
  · split at h
    · simp at h
    · grind
theorem cmp_ngt {a b : Rat} (h : decide ((0 : Int) < Q.cmp a b) = false) : a ≤ b := by
  unfold Q.cmp at h
  split at h
  · rename_i h1; exact Rat.le_of_lt h1
  · split at h
    · rename_i h1; rw [h1]; exact Rat.le_refl
    · simp at h
theorem within_s {t : Fr} {x : Cl} {w : World} (ht : Fr.ok w t) (hx : Fr.ok w x.w) (gx : x.good) (st : Q.Sz 100 t.q) :
    Calls Tryz.prog 27 #[t.v, x.v] w (FrOut w (min ((x.cap : Int) : Rat) (t.q * x.w.q))) := by
 have gb0 := gx.b0
 have gb1 := gx.b1
 refine V.enter Tryz.func27 rfl rfl (by simp) fun f0 hf => ?_
 have s0 : f0 0 = t.v := hf 0 (by simp)
 have s1 : f0 1 = x.v := hf 1 (by simp)
 clear hf
 have hb : Below w.heap.size w w := Below.refl _ _
 refine V.seq ?_
 refine V.reg 3 [V.Nb w 39 t.cs, V.Nb w 50 #[.int .i64 x.id, .bool (Q.neg x.w.q), Vs x.w.A (Q.m x.w.q) x.w.c, .bool false, Vs x.w.A' x.w.q.den x.w.c', .int .i64 x.cap], V.Nb w 39 #[.bool false, .slice none 0 0, .bool false, .slice none 0 0]] [0, 1, 2] (V.i ht (V.i hx hb)) ?_ ?_
 ·refine V.ac ?_ (V.ac ?_ (V.ac ?_ V.an))
  ·exact V.sn rfl fun f W h => V.x_box (V.eo h 0 s0)
  ·exact V.sn rfl fun f W h => V.x_box (V.eo h 1 s1)
  ·exact V.sn rfl fun f W h => V.x_alloc
 have o_bel := hb.size
 intro f4 W5 hE6
 clear ht hx hb
 obtain ⟨⟨ht, hx, hb⟩, hsz⟩ := hE6.g
 obtain ⟨s0, s1⟩ := V.e2 hE6 s0 s1
 obtain ⟨g1, s2, b_g1, l_g1⟩ := V.eq hE6 0 2 rfl
 obtain ⟨g2, s3, b_g2, l_g2⟩ := V.eq hE6 1 3 rfl
 obtain ⟨g3, s4, b_g3, l_g3⟩ := V.eq hE6 2 4 rfl
 have m_g3 : w.heap.size ≤ g3 := Nat.le_trans o_bel l_g3
 clear hE6 hsz
 clear o_bel
 refine V.t_done rfl (V.nx (V.seq ?_))
 refine V.reg 8 [V.E (t.v), V.E (Vp g2 1), V.E (x.w.v), (fun v W => ∃ z7 : Fr, v = .tuple #[z7.v, .int .i64 0] ∧ Fr.ok W z7 ∧ (z7.q = (t.q * x.w.q))), (fun v W => ∃ z10 : Fr, v = .tuple #[z10.v, .int .i64 0] ∧ Fr.ok W z10 ∧ (z10.q = (t.q * x.w.q))), (fun v W => ∃ z11 : Fr, v = z11.v ∧ Fr.ok W z11 ∧ (z11.q = (t.q * x.w.q))), V.E (.int .i64 0), V.Nb W5 39 #[.bool false, .slice none 0 0, .bool false, .slice none 0 0]] [7] (V.i ht (V.i hx (V.i hb (V.i b_g1 (V.i b_g2 b_g3))))) ?_ ?_
 ·refine V.ac ?_ (V.ac ?_ (V.ac ?_ (V.ac ?_ (V.ac ?_ (V.ac ?_ (V.ac ?_ (V.ac ?_ V.an)))))))
  ·exact V.z1 rfl fun h => V.xl (V.eo h 2 s2) (V.lr h.g.1.2.2.2.1 Tryz.underlying39)
  ·exact V.z1 rfl fun h => V.xa (V.eo h 3 s3)
  ·exact V.z1 rfl fun h => V.xl (V.ed h 1 10 rfl) (V.ld_mid (xs := [.bool (Q.neg x.w.q), Vs x.w.A (Q.m x.w.q) x.w.c, .bool false, Vs x.w.A' x.w.q.den x.w.c']) h.g.1.2.2.2.2.1 (by intro j hj; match j, hj with | 0, _ => rfl | 1, _ => rfl | 2, _ => rfl | 3, _ => rfl) Tryz.underlying39)
  ·refine V.s2 rfl fun f W h => ?_
   refine V.call en28 (V.args2 (V.ed h 0 9 rfl) (V.ed h 2 11 rfl)) (Calls.mono (Mul_s h.g.1.1 h.g.1.2.1 (st.mono (by decide)) (gx.s.mono (by decide)) ((st.mul gx.s).mono (by decide))) ?_)
   rintro e W' ⟨z7, rfl, k8, e9, hb⟩
   exact ⟨_, rfl, ⟨z7, rfl, k8, e9⟩, hb⟩
  ·refine V.s2 rfl fun f W h => ?_
   obtain ⟨z7, a12, k3_0, p3_0⟩ := V.dp h 3 12 (by kernel_rfl) rfl
   exact V.v2 (.tuple #[z7.v, .int .i64 0]) (V.xm (V.ev_tmp rfl a12)) ⟨z7, rfl, k3_0, p3_0⟩
  ·refine V.s2 rfl fun f W h => ?_
   obtain ⟨z10, a8, k4_0, p4_0⟩ := V.dp h 4 8 (by kernel_rfl) rfl
   exact V.v2 (z10.v) (V.xe (V.ev_tmp rfl a8)) ⟨z10, rfl, k4_0, p4_0⟩
  ·refine V.s1 rfl fun f W h => ?_
   obtain ⟨z10, a8, k4_0, p4_0⟩ := V.dp h 4 8 (by kernel_rfl) rfl
   exact V.xe (V.ev_tmp rfl a8)
  ·exact V.sn rfl fun f W h => V.x_alloc
 have o_g1 := b_g1.lt
 have o_g2 := b_g2.lt
 have o_g3 := b_g3.lt
 have o_bel := hb.size
 intro f13 W14 hE15
 clear ht hx hb b_g1 b_g2 b_g3
 obtain ⟨⟨ht, hx, hb, b_g1, b_g2, b_g3⟩, hsz⟩ := hE15.g
 obtain ⟨s0, s1, s3, s4⟩ := V.e4 hE15 s0 s1 s3 s4
 obtain ⟨z11, s13, r16, n17⟩ := V.eq hE15 5 13 rfl
 have s14 := V.es hE15 6 14 rfl
 obtain ⟨g12, s5, b_g12, l_g12⟩ := V.eq hE15 7 5 rfl
 have m_g12 : w.heap.size ≤ g12 := Nat.le_trans o_bel l_g12
 have q_g1_g12 : g1 ≠ g12 := by omega
 have q_g2_g12 : g2 ≠ g12 := by omega
 have q_g3_g12 : g3 ≠ g12 := by omega
 clear hE15 hsz
 clear o_bel o_g1 o_g2 o_g3
 refine V.t_st (k := 8) rfl (V.x_store (V.ev_tmp rfl s5) (V.ev_tmp rfl s13) (V.st_row b_g12)) b_g12 fun W18 hs b' => ?_
 replace ht := hs.fr ht
 replace hx := hs.fr hx
 replace hb := hs.bel hb m_g12
 replace b_g1 := hs.blk b_g1 q_g1_g12
 replace b_g2 := hs.blk b_g2 q_g2_g12
 replace b_g3 := hs.blk b_g3 q_g3_g12
 replace r16 := hs.fr r16
 replace b_g12 := b'
 clear hs b'
 refine V.t_val (k := 9) (v := .int .i64 0) (t := 6) rfl rfl rfl (by kernel_rfl) trivial (V.xs (V.ev_tmp rfl s14)) ?_
 intro f19 e20 u21
 replace s0 : f19 0 = t.v := (u21 0 (by decide)).trans s0
 replace s1 : f19 1 = x.v := (u21 1 (by decide)).trans s1
 replace s3 : f19 3 = Vp g2 0 := (u21 3 (by decide)).trans s3
 replace s4 : f19 4 = Vp g3 0 := (u21 4 (by decide)).trans s4
 replace s13 : f19 13 = z11.v := (u21 13 (by decide)).trans s13
 replace s14 : f19 14 = .int .i64 0 := (u21 14 (by decide)).trans s14
 replace s5 : f19 5 = Vp g12 0 := (u21 5 (by decide)).trans s5
 have s6 := e20
 clear u21
 refine V.t_done rfl (V.nx (V.seq ?_))
 clear b_g1
 refine V.reg 4 [V.E (Vp g2 5), V.E (.int .i64 x.cap), (fun v W => ∃ z22 : Fr, v = z22.v ∧ Fr.ok W z22 ∧ (z22.q = (((x.cap : Int) : Rat) : Rat))), V.Nb W18 39 #[.bool false, .slice none 0 0, .bool false, .slice none 0 0]] [3] (V.i ht (V.i hx (V.i hb (V.i b_g2 (V.i b_g3 (V.i r16 b_g12)))))) ?_ ?_
 ·refine V.ac ?_ (V.ac ?_ (V.ac ?_ (V.ac ?_ V.an)))
  ·exact V.z1 rfl fun h => V.xa (V.eo h 3 s3)
  ·exact V.z1 rfl fun h => V.xl (V.ed h 0 15 rfl) (V.lo h.g.1.2.2.2.1 rfl)
  ·refine V.s2 rfl fun f W h => ?_
   refine V.call en20 (V.args1 (V.ed h 1 16 rfl)) (Calls.mono (FromInt_s (x := x.cap) (by omega) (by omega)) ?_)
   rintro e W' ⟨z22, rfl, k23, e24, hb⟩
   exact ⟨_, rfl, ⟨z22, rfl, k23, e24⟩, hb⟩
  ·exact V.sn rfl fun f W h => V.x_alloc
 have o_g2 := b_g2.lt
 have o_g3 := b_g3.lt
 have o_g12 := b_g12.lt
 have o_bel := hb.size
 intro f26 W27 hE28
 clear ht hx hb b_g2 b_g3 r16 b_g12
 obtain ⟨⟨ht, hx, hb, b_g2, b_g3, r16, b_g12⟩, hsz⟩ := hE28.g
 obtain ⟨s0, s1, s4, s5⟩ := V.e4 hE28 s0 s1 s4 s5
 obtain ⟨z22, s17, r29, n30⟩ := V.eq hE28 2 17 rfl
 obtain ⟨g25, s7, b_g25, l_g25⟩ := V.eq hE28 3 7 rfl
 have m_g25 : w.heap.size ≤ g25 := Nat.le_trans o_bel l_g25
 have q_g2_g25 : g2 ≠ g25 := by omega
 have q_g3_g25 : g3 ≠ g25 := by omega
 have q_g12_g25 : g12 ≠ g25 := by omega
 clear hE28 hsz
 clear o_bel o_g2 o_g3 o_g12
 refine V.t_st (k := 4) rfl (V.x_store (V.ev_tmp rfl s7) (V.ev_tmp rfl s17) (V.st_row b_g25)) b_g25 fun W31 hs b' => ?_
 replace ht := hs.fr ht
 replace hx := hs.fr hx
 replace hb := hs.bel hb m_g25
 replace b_g2 := hs.blk b_g2 q_g2_g25
 replace b_g3 := hs.blk b_g3 q_g3_g25
 replace r16 := hs.fr r16
 replace b_g12 := hs.blk b_g12 q_g12_g25
 replace r29 := hs.fr r29
 replace b_g25 := b'
 clear hs b'
 refine V.t_done rfl (V.nx (V.seq (V.seq ?_)))
 clear b_g2
 refine V.reg 4 [V.E (z11.v), V.E (z22.v), V.E (.int .i64 (Q.cmp (t.q * x.w.q) (((x.cap : Int) : Rat) : Rat))), V.E (.bool (decide (0 < (Q.cmp (t.q * x.w.q) (((x.cap : Int) : Rat) : Rat)))))] [] (V.i ht (V.i hx (V.i hb (V.i b_g3 (V.i r16 (V.i b_g12 (V.i r29 b_g25))))))) ?_ ?_
 ·refine V.ac ?_ (V.ac ?_ (V.ac ?_ (V.ac ?_ V.an)))
  ·exact V.z1 rfl fun h => V.xl (V.eo h 5 s5) (V.lr h.g.1.2.2.2.2.2.1 Tryz.underlying39)
  ·exact V.z1 rfl fun h => V.xl (V.eo h 7 s7) (V.lr h.g.1.2.2.2.2.2.2.2 Tryz.underlying39)
  ·refine V.s2 rfl fun f W h => ?_
   refine V.call en19 (V.args2 (V.ed h 0 18 rfl) (V.ed h 1 19 rfl)) (Calls.mono (Cmp_s h.g.1.2.2.2.2.1 h.g.1.2.2.2.2.2.2.1 (by rw [n17]; exact ((st.mul gx.s).mono (by decide))) (by rw [n30]; exact ((Q.Sz.cap gx.b0 gx.b1).mono (by decide)))) ?_)
   rintro e W' ⟨e32, hb⟩
   rw [n17, n30] at e32
   subst e32
   exact ⟨_, rfl, rfl, hb⟩
  ·exact V.z1 rfl fun h => V.xb (V.ed h 2 20 rfl) rfl
 intro f33 W34 hE35
 clear ht hx hb b_g3 r16 b_g12 r29 b_g25
 obtain ⟨⟨ht, hx, hb, b_g3, r16, b_g12, r29, b_g25⟩, hsz⟩ := hE35.g
 obtain ⟨s0, s1, s4, s5, s7⟩ := V.e5 hE35 s0 s1 s4 s5 s7
 have s21 := V.es hE35 3 21 rfl
 clear hE35 hsz
 refine V.t_done rfl (V.nx ?_)
 cases hc36 : (decide (0 < (Q.cmp (t.q * x.w.q) (((x.cap : Int) : Rat) : Rat))))
 ·have s21_ : f33 21 = .bool false := s21.trans (by rw [hc36])
  refine V.cond_f (V.ev_tmp rfl s21_) ?_
  have hz := hc36
  refine V.skip ?_
  refine V.nx (V.seq ?_)
  clear r29 b_g25
  refine V.reg 1 [V.E (z11.v)] [] (V.i ht (V.i hx (V.i hb (V.i b_g3 (V.i r16 b_g12))))) ?_ ?_
  ·refine V.ac ?_ V.an
   ·exact V.z1 rfl fun h => V.xl (V.eo h 5 s5) (V.lr h.g.1.2.2.2.2.2 Tryz.underlying39)
  intro f37 W38 hE39
  clear ht hx hb b_g3 r16 b_g12
  obtain ⟨⟨ht, hx, hb, b_g3, r16, b_g12⟩, hsz⟩ := hE39.g
  obtain ⟨s0, s1, s4⟩ := V.e3 hE39 s0 s1 s4
  have s23 := V.es hE39 0 23 rfl
  clear hE39 hsz
  refine V.t_st (k := 1) rfl (V.x_store (V.ev_tmp rfl s4) (V.ev_tmp rfl s23) (V.st_row b_g3)) b_g3 fun W40 hs b' => ?_
  replace ht := hs.fr ht
  replace hx := hs.fr hx
  replace hb := hs.bel hb m_g3
  replace r16 := hs.fr r16
  replace b_g12 := hs.blk b_g12 (Ne.symm q_g3_g12)
  replace b_g3 := b'
  clear hs b'
  refine V.t_done rfl (V.nx (V.ret ?_))
  refine V.leave_any (.inl rfl) (V.res_cell rfl rfl s4 (V.lr b_g3 Tryz.underlying39 rfl (by kernel_rfl))) ?_
  exact ⟨z11, rfl, r16, by rw [n17]; exact (rmin_r (cmp_ngt hz)).symm, hb⟩
 ·have s21_ : f33 21 = .bool true := s21.trans (by rw [hc36])
  refine V.cond_t (V.ev_tmp rfl s21_) ?_
  have hz := hc36
  refine V.seq ?_
  refine V.reg 1 [V.E (z22.v)] [] (V.i ht (V.i hx (V.i hb (V.i b_g3 (V.i r16 (V.i b_g12 (V.i r29 b_g25))))))) ?_ ?_
  ·refine V.ac ?_ V.an
   ·exact V.z1 rfl fun h => V.xl (V.eo h 7 s7) (V.lr h.g.1.2.2.2.2.2.2.2 Tryz.underlying39)
  intro f41 W42 hE43
  clear ht hx hb b_g3 r16 b_g12 r29 b_g25
  obtain ⟨⟨ht, hx, hb, b_g3, r16, b_g12, r29, b_g25⟩, hsz⟩ := hE43.g
  obtain ⟨s0, s1, s4, s5⟩ := V.e4 hE43 s0 s1 s4 s5
  have s22 := V.es hE43 0 22 rfl
  clear hE43 hsz
  refine V.t_st (k := 1) rfl (V.x_store (V.ev_tmp rfl s4) (V.ev_tmp rfl s22) (V.st_row b_g3)) b_g3 fun W44 hs b' => ?_
  replace ht := hs.fr ht
  replace hx := hs.fr hx
  replace hb := hs.bel hb m_g3
  replace r16 := hs.fr r16
  replace b_g12 := hs.blk b_g12 (Ne.symm q_g3_g12)
  replace r29 := hs.fr r29
  replace b_g25 := hs.blk b_g25 (Ne.symm q_g3_g25)
  replace b_g3 := b'
  clear hs b'
  refine V.t_done rfl (V.nx (V.ret (V.tr ?_)))
  refine V.leave_any (.inl rfl) (V.res_cell rfl rfl s4 (V.lr b_g3 Tryz.underlying39 rfl (by kernel_rfl))) ?_
  exact ⟨z22, rfl, r29, by rw [n30]; exact (rmin_l (cmp_gt hz)).symm, hb⟩
theorem sumAt_s {t : Fr} {A : Option Addr} {c : Nat} {l : List Cl} {w : World} (ht : Fr.ok w t) (hl : Ls w 6 A l.length c (l.map Cl.cells)) (hfr : ∀ x ∈ l, Fr.ok w x.w) (hg : ∀ x ∈ l, x.good) (h10 : l.length ≤ 10) (st : Q.Sz 100 t.q) (t0 : 0 ≤ t.q) :
    Calls Tryz.prog 24 #[t.v, .slice A l.length c] w (FrOut w (S t.q l)) := by
 refine V.enter Tryz.func24 rfl rfl (by simp) fun f0 hf => ?_
 have s0 : f0 0 = t.v := hf 0 (by simp)
 have s1 : f0 1 = .slice A l.length c := hf 1 (by simp)
 clear hf
 have hb : Below w.heap.size w w := Below.refl _ _
 have w_ht := ht
 have w_hl := hl
 have w_hfr := hfr
 refine V.seq ?_
 refine V.reg 2 [V.Nb w 39 t.cs, V.Nb w 39 #[.bool false, .slice none 0 0, .bool false, .slice none 0 0]] [0, 1] (V.i ht (V.i hl (V.i hfr hb))) ?_ ?_
 ·refine V.ac ?_ (V.ac ?_ V.an)
  ·exact V.sn rfl fun f W h => V.x_box (V.eo h 0 s0)
  ·exact V.sn rfl fun f W h => V.x_alloc
 have o_bel := hb.size
 have ob_hl := hl.blt
 intro f47 W48 hE49
 clear ht hl hfr hb
 obtain ⟨⟨ht, hl, hfr, hb⟩, hsz⟩ := hE49.g
 obtain ⟨s0, s1⟩ := V.e2 hE49 s0 s1
 obtain ⟨g45, s2, b_g45, l_g45⟩ := V.eq hE49 0 2 rfl
 obtain ⟨g46, s4, b_g46, l_g46⟩ := V.eq hE49 1 4 rfl
 have m_g46 : w.heap.size ≤ g46 := Nat.le_trans o_bel l_g46
 have q_g45_g46 : g45 ≠ g46 := V.ep hE49 0 1 2 4 s2 s4
 have q_hl_g46 : 0 < l.length → (adr A).block ≠ g46 := fun h => Nat.ne_of_lt (Nat.lt_of_lt_of_le (ob_hl h) l_g46)
 clear hE49 hsz
 clear o_bel ob_hl
 refine V.t_done rfl (V.nx (V.seq ?_))
 refine V.reg 2 [(fun v W => ∃ z50 : Fr, v = z50.v ∧ Fr.ok W z50 ∧ (z50.q = (0 : Rat))), V.Nb W48 39 #[.bool false, .slice none 0 0, .bool false, .slice none 0 0]] [1] (V.i ht (V.i hl (V.i hfr (V.i hb (V.i b_g45 b_g46))))) ?_ ?_
 ·refine V.ac ?_ (V.ac ?_ V.an)
  ·refine V.s2 rfl fun f W h => ?_
   refine V.call en20 (V.args1 rfl) (Calls.mono (FromInt_s (x := 0) (by decide) (by decide)) ?_)
   rintro e W' ⟨z50, rfl, k51, e52, hb⟩
   exact ⟨_, rfl, ⟨z50, rfl, k51, e52⟩, hb⟩
  ·exact V.sn rfl fun f W h => V.x_alloc
 have o_g45 := b_g45.lt
 have o_g46 := b_g46.lt
 have o_bel := hb.size
 have ob_hl := hl.blt
 intro f54 W55 hE56
 clear ht hl hfr hb b_g45 b_g46
 obtain ⟨⟨ht, hl, hfr, hb, b_g45, b_g46⟩, hsz⟩ := hE56.g
 obtain ⟨s0, s1, s2, s4⟩ := V.e4 hE56 s0 s1 s2 s4
 obtain ⟨z50, s7, r57, n58⟩ := V.eq hE56 0 7 rfl
 obtain ⟨g53, s5, b_g53, l_g53⟩ := V.eq hE56 1 5 rfl
 have m_g53 : w.heap.size ≤ g53 := Nat.le_trans o_bel l_g53
 have q_g45_g53 : g45 ≠ g53 := by omega
 have q_g46_g53 : g46 ≠ g53 := by omega
 have q_hl_g53 : 0 < l.length → (adr A).block ≠ g53 := fun h => Nat.ne_of_lt (Nat.lt_of_lt_of_le (ob_hl h) l_g53)
 clear hE56 hsz
 clear o_bel o_g45 o_g46 ob_hl
 refine V.t_st (k := 2) rfl (V.x_store (V.ev_tmp rfl s5) (V.ev_tmp rfl s7) (V.st_row b_g53)) b_g53 fun W59 hs b' => ?_
 replace ht := hs.fr ht
 replace hl := hs.ls hl q_hl_g53
 replace hfr := (fun x_0 hx_0 => hs.fr (hfr x_0 hx_0))
 replace hb := hs.bel hb m_g53
 replace b_g45 := hs.blk b_g45 q_g45_g53
 replace b_g46 := hs.blk b_g46 q_g46_g53
 replace r57 := hs.fr r57
 replace b_g53 := b'
 clear hs b'
 refine V.t_done rfl (V.nx (V.seq (V.seq ?_)))
 refine V.reg 1 [V.E (.int .i64 0)] [] (V.i ht (V.i hl (V.i hfr (V.i hb (V.i b_g45 (V.i b_g46 (V.i r57 b_g53))))))) ?_ ?_
 ·refine V.ac ?_ V.an
  ·exact V.z1 rfl fun h => V.xs rfl
 intro f60 W61 hE62
 clear ht hl hfr hb b_g45 b_g46 r57 b_g53
 obtain ⟨⟨ht, hl, hfr, hb, b_g45, b_g46, r57, b_g53⟩, hsz⟩ := hE62.g
 obtain ⟨s0, s1, s2, s4, s5⟩ := V.e5 hE62 s0 s1 s2 s4 s5
 have s6 := V.es hE62 0 6 rfl
 clear hE62 hsz
 refine V.t_done rfl (V.nx (V.block ?_))
 refine V.loop (fun k f W => ∃ i : Nat, ∃ s_ : Fr, (k = l.length - i ∧ (i ≤ l.length) ∧ (s_.q = S t.q (l.take i))) ∧ (f 1 = .slice A l.length c ∧ f 2 = Vp g45 0 ∧ f 4 = Vp g46 0 ∧ f 5 = Vp g53 0 ∧ f 6 = .int .i64 (i : Int)) ∧ (Below w.heap.size w W ∧ Ls W 6 A l.length c (l.map Cl.cells) ∧ (∀ x ∈ l, Fr.ok W x.w) ∧ Fr.ok W t ∧ Blk W g45 39 t.cs ∧ Blk W g46 39 #[.bool false, .slice none 0 0, .bool false, .slice none 0 0] ∧ Blk W g53 39 s_.cs ∧ Fr.ok W s_)) (l.length - 0) ⟨0, z50, ⟨rfl, by omega, by rw [n58]; rfl⟩, ⟨s1, s2, s4, s5, (s6.trans (by simp))⟩, ⟨hb, hl, hfr, ht, b_g45, b_g46, b_g53, r57⟩⟩ ?_
 clear ht hl hfr hb b_g45 b_g46 r57 b_g53 s0 s1 s2 s4 s5 s6
 rintro k65 f63 W64 ⟨i, s_, ⟨hk74, hil, hsm⟩, ⟨s1, s2, s4, s5, s6⟩, ⟨r66, r67, r68, r69, r70, r71, r72, r73⟩⟩
 refine V.seq (V.seq ?_)
 refine V.reg 4 [V.E (.int .i64 (i : Int)), V.E (.slice A l.length c), V.E (.int .i64 (l.length : Int)), V.E (.bool (decide ((i : Int) < (l.length : Int))))] [] (V.i r66 (V.i r67 (V.i r68 (V.i r69 (V.i r70 (V.i r71 (V.i r72 r73))))))) ?_ ?_
 ·refine V.ac ?_ (V.ac ?_ (V.ac ?_ (V.ac ?_ V.an)))
  ·exact V.z1 rfl fun h => V.xm (V.eo h 6 s6)
  ·exact V.z1 rfl fun h => V.xm (V.eo h 1 s1)
  ·exact V.z1 rfl fun h => V.x_len (V.ed h 1 9 rfl)
  ·exact V.z1 rfl fun h => V.xb (V.ed h 0 8 rfl) (V.ed h 2 10 rfl)
 intro f75 W76 hE77
 clear r66 r67 r68 r69 r70 r71 r72 r73
 obtain ⟨⟨r66, r67, r68, r69, r70, r71, r72, r73⟩, hsz⟩ := hE77.g
 obtain ⟨s1, s2, s4, s5, s6⟩ := V.e5 hE77 s1 s2 s4 s5 s6
 have s11 := V.es hE77 3 11 rfl
 clear hE77 hsz
 refine V.t_done rfl (V.nx ?_)
 cases hc78 : (decide ((i : Int) < (l.length : Int)))
 ·have s11_ : f75 11 = .bool false := s11.trans (by rw [hc78])
  refine V.cond_f (V.ev_tmp rfl s11_) ?_
  have hi : i = l.length := by have := of_decide_eq_false hc78; omega
  rw [hi, List.take_length] at hsm
  refine V.exit (V.tx (V.tx (V.bx (V.nx (V.seq ?_)))))
  refine V.reg 1 [V.E (s_.v)] [] (V.i r66 (V.i r67 (V.i r68 (V.i r69 (V.i r70 (V.i r71 (V.i r72 r73))))))) ?_ ?_
  ·refine V.ac ?_ V.an
   ·exact V.z1 rfl fun h => V.xl (V.eo h 5 s5) (V.lr h.g.1.2.2.2.2.2.2.1 Tryz.underlying39)
  intro f79 W80 hE81
  clear r66 r67 r68 r69 r70 r71 r72 r73
  obtain ⟨⟨r66, r67, r68, r69, r70, r71, r72, r73⟩, hsz⟩ := hE81.g
  obtain ⟨s1, s4⟩ := V.e2 hE81 s1 s4
  have s25 := V.es hE81 0 25 rfl
  clear hE81 hsz
  refine V.t_st (k := 1) rfl (V.x_store (V.ev_tmp rfl s4) (V.ev_tmp rfl s25) (V.st_row r71)) r71 fun W82 hs b' => ?_
  replace r66 := hs.bel r66 m_g46
  replace r67 := hs.ls r67 q_hl_g46
  replace r68 := (fun x_0 hx_0 => hs.fr (r68 x_0 hx_0))
  replace r69 := hs.fr r69
  replace r70 := hs.blk r70 q_g45_g46
  replace r72 := hs.blk r72 (Ne.symm q_g46_g53)
  replace r73 := hs.fr r73
  replace r71 := b'
  clear hs b'
  refine V.t_done rfl (V.nx (V.ret ?_))
  refine V.leave_any (.inl rfl) (V.res_cell rfl rfl s4 (V.lr r71 Tryz.underlying39 rfl (by kernel_rfl))) ?_
  exact ⟨s_, rfl, r73, hsm, r66⟩
 ·have s11_ : f75 11 = .bool true := s11.trans (by rw [hc78])
  refine V.cond_t (V.ev_tmp rfl s11_) ?_
  have hi : i < l.length := by have := of_decide_eq_true hc78; omega
  obtain ⟨x, mx, ex, ex_⟩ := V.at_map Cl.cells (l := l) (i := i) hi
  have gx := hg x mx
  have fx := r68 x mx
  have hst := S_take (t := t.q) ex
  have hsz := S_sz t0 st (l := l.take i) (fun y hy => hg y (List.mem_of_mem_take hy)) (by rw [List.length_take]; omega)
  have hnz := S_sz t0 st (l := l.take (i + 1)) (fun y hy => hg y (List.mem_of_mem_take hy)) (by rw [List.length_take]; omega)
  rw [hst] at hnz
  have hpz : Q.Sz 104 (min ((x.cap : Int) : Rat) (t.q * x.w.q)) := ((Q.Sz.cap gx.b0 gx.b1).mono (by decide)).min (st.mul gx.s)
  rw [← hsm] at hsz hnz
  refine V.skip ?_
  refine V.nx (V.seq (V.block ?_))
  refine V.regF 11 [V.E (s_.v), V.E (t.v), V.E (.slice A l.length c), V.E (.int .i64 (i : Int)), V.E (.pointer (some ((adr A).add (i * 6 + 0)))), V.E (x.v), (fun v W => ∃ z83 : Fr, v = z83.v ∧ Fr.ok W z83 ∧ (z83.q = (min ((x.cap : Int) : Rat) (t.q * x.w.q)))), (fun v W => ∃ z86 : Fr, v = .tuple #[z86.v, .int .i64 0] ∧ Fr.ok W z86 ∧ (z86.q = (s_.q + (min ((x.cap : Int) : Rat) (t.q * x.w.q))))), (fun v W => ∃ z89 : Fr, v = .tuple #[z89.v, .int .i64 0] ∧ Fr.ok W z89 ∧ (z89.q = (s_.q + (min ((x.cap : Int) : Rat) (t.q * x.w.q))))), (fun v W => ∃ z90 : Fr, v = z90.v ∧ Fr.ok W z90 ∧ (z90.q = (s_.q + (min ((x.cap : Int) : Rat) (t.q * x.w.q))))), V.E (.int .i64 0)] [] (V.i r66 (V.i r67 (V.i r68 (V.i r69 (V.i r70 (V.i r71 (V.i r72 (V.i r73 fx)))))))) [10] (fun _ => True) (fun _ _ => trivial) ?_ ?_ ?_
  ·refine V.ac ?_ (V.ac ?_ (V.ac ?_ (V.ac ?_ (V.ac ?_ (V.ac ?_ (V.ac ?_ (V.ac ?_ (V.ac ?_ (V.ac ?_ (V.ac ?_ V.an))))))))))
   ·exact V.z1 rfl fun h => V.xl (V.eo h 5 s5) (V.lr h.g.1.2.2.2.2.2.2.1 Tryz.underlying39)
   ·exact V.z1 rfl fun h => V.xl (V.eo h 2 s2) (V.lr h.g.1.2.2.2.2.1 Tryz.underlying39)
   ·exact V.z1 rfl fun h => V.xm (V.eo h 1 s1)
   ·exact V.z1 rfl fun h => V.xm (V.eo h 6 s6)
   ·exact V.z1 rfl fun h => V.xi (i := i) h.g.1.2.1 ex_ (V.ed h 2 17 rfl) (V.ed h 3 18 rfl)
   ·exact V.z1 rfl fun h => V.xl (V.ed h 4 19 rfl) (V.ld_lsE (i := i) (o := 0) (cs := [.int .i64 x.id, .bool (Q.neg x.w.q), Vs x.w.A (Q.m x.w.q) x.w.c, .bool false, Vs x.w.A' x.w.q.den x.w.c', .int .i64 x.cap]) h.g.1.2.1 ex_ Tryz.underlying50)
   ·refine V.s2 rfl fun f W h => ?_
    refine V.call en27 (V.args2 (V.ed h 1 16 rfl) (V.ed h 5 20 rfl)) (Calls.mono (within_s (x := x) h.g.1.2.2.2.1 h.g.1.2.2.2.2.2.2.2.2 gx st) ?_)
    rintro e W' ⟨z83, rfl, k84, e85, hb⟩
    exact ⟨_, rfl, ⟨z83, rfl, k84, e85⟩, hb⟩
   ·refine V.s2 rfl fun f W h => ?_
    obtain ⟨z83, a21, k6_0, p6_0⟩ := V.dp h 6 21 (by kernel_rfl) rfl
    refine V.call en60 (V.args2 (V.ed h 0 15 rfl) (V.ev_tmp rfl a21)) (Calls.mono (Add_s h.g.1.2.2.2.2.2.2.2.1 k6_0 (hsz.mono (by decide)) (by rw [p6_0]; exact (hpz.mono (by decide))) (by rw [p6_0]; exact (hnz.mono (by decide)))) ?_)
    rintro e W' ⟨z86, rfl, k87, e88, hb⟩
    exact ⟨_, rfl, ⟨z86, rfl, k87, e88.trans (by rw [p6_0])⟩, hb⟩
   ·refine V.s2 rfl fun f W h => ?_
    obtain ⟨z86, a22, k7_0, p7_0⟩ := V.dp h 7 22 (by kernel_rfl) rfl
    exact V.v2 (.tuple #[z86.v, .int .i64 0]) (V.xm (V.ev_tmp rfl a22)) ⟨z86, rfl, k7_0, p7_0⟩
   ·refine V.s2 rfl fun f W h => ?_
    obtain ⟨z89, a14, k8_0, p8_0⟩ := V.dp h 8 14 (by kernel_rfl) rfl
    exact V.v2 (z89.v) (V.xe (V.ev_tmp rfl a14)) ⟨z89, rfl, k8_0, p8_0⟩
   ·refine V.s1 rfl fun f W h => ?_
    obtain ⟨z89, a14, k8_0, p8_0⟩ := V.dp h 8 14 (by kernel_rfl) rfl
    exact V.xe (V.ev_tmp rfl a14)
  ·refine V.fl1 (V.fl_step rfl rfl fun f W h => ?_)
   ·obtain ⟨z89, a14, k8_0, p8_0⟩ := V.dp h 8 14 (by kernel_rfl) rfl
    exact ⟨.int .i64 0, fun _ _ => V.xe (V.ev_tmp rfl a14), rfl⟩
  intro f91 W92 hE93
  clear r66 r67 r68 r69 r70 r71 r72 r73 fx
  obtain ⟨⟨r66, r67, r68, r69, r70, r71, r72, r73, fx⟩, hsz⟩ := hE93.g
  obtain ⟨s1, s2, s4, s5, s6⟩ := V.e5 hE93 s1 s2 s4 s5 s6
  obtain ⟨z90, s23, r94, n95⟩ := V.eq hE93 9 23 rfl
  clear hE93 hsz
  refine V.t_st (k := 11) rfl (V.x_store (V.ev_tmp rfl s5) (V.ev_tmp rfl s23) (V.st_row r72)) r72 fun W96 hs b' => ?_
  replace r66 := hs.bel r66 m_g53
  replace r67 := hs.ls r67 q_hl_g53
  replace r68 := (fun x_0 hx_0 => hs.fr (r68 x_0 hx_0))
  replace r69 := hs.fr r69
  replace r70 := hs.blk r70 q_g45_g53
  replace r71 := hs.blk r71 q_g46_g53
  replace r73 := hs.fr r73
  replace fx := hs.fr fx
  replace r94 := hs.fr r94
  replace r72 := b'
  clear hs b'
  refine V.t_done rfl (V.bn (V.nx ?_))
  refine V.reg 3 [V.E (.int .i64 (i : Int)), V.E (.int .i64 ((i : Int) + 1)), V.E (.int .i64 ((i : Int) + 1))] [] (V.i r66 (V.i r67 (V.i r68 (V.i r69 (V.i r70 (V.i r71 (V.i r72 (V.i r73 (V.i fx r94))))))))) ?_ ?_
  ·refine V.ac ?_ (V.ac ?_ (V.ac ?_ V.an))
   ·exact V.z1 rfl fun h => V.xm (V.eo h 6 s6)
   ·refine V.s1 rfl fun f W h => ?_
    have hw97 : IntKind.i64.wrap ((i : Int) + 1) = (i : Int) + 1 := by exact IntWalk.i64_in _ (by omega)
    exact V.xb (V.ed h 0 12 rfl) rfl ((by kernel_rfl : _ = Result.ok (.int .i64 (IntKind.i64.wrap ((i : Int) + 1))) _).trans (by rw [hw97]))
   ·exact V.z1 rfl fun h => V.xs (V.ed h 1 13 rfl)
  intro f98 W99 hE100
  clear r66 r67 r68 r69 r70 r71 r72 r73 fx r94
  obtain ⟨⟨r66, r67, r68, r69, r70, r71, r72, r73, fx, r94⟩, hsz⟩ := hE100.g
  obtain ⟨s1, s2, s4, s5⟩ := V.e4 hE100 s1 s2 s4 s5
  have s6 := V.es hE100 2 6 rfl
  clear hE100 hsz
  refine V.t_done rfl ?_
  refine V.handed (l.length - (i + 1)) (by have := hk74; omega) ⟨(i + 1), z90, ⟨rfl, by omega, by rw [hst, ← hsm]; exact n95⟩, ⟨s1, s2, s4, s5, (s6.trans (by simp))⟩, ⟨r66, r67, r68, r69, r70, r71, r72, r94⟩⟩
end Go.Proofs.YtjbcalbbhomkjaaGreat
namespace Go.Proofs.YtjbcalbbhomkjaaGreat
open Go.RowKit
attribute [local irreducible] RI.frame RI.act RI.Ob RI.Tail RI.out V.Wp V.Fn Oper.wp
theorem en24 : En 24 := enters_of Tryz.func24 (by kernel_rfl) rfl
theorem en26 : En 26 := enters_of Tryz.func26 (by kernel_rfl) rfl
theorem cmp_eq0 {a b : Rat} (h : a = b) : (Q.cmp a b != (0 : Int)) = false := by
  subst h; unfold Q.cmp; rw [if_neg Rat.lt_irrefl, if_pos rfl]; rfl
theorem cmp_lt0 {a b : Rat} (h : a < b) : decide (Q.cmp a b < (0 : Int)) = true := by
  unfold Q.cmp; rw [if_pos h]; rfl
theorem nat_cast_lt {n d : Nat} (h : n < d) : ((n : Nat) : Rat) < ((d : Nat) : Rat) := Rat.intCast_lt_intCast.2 (Int.ofNat_lt.2 h)
theorem quick_sz {n d : Nat} (hn : n < 65536) (hd0 : 0 < d) (hd : d < 65536) : Q.Sz 1 (((n : Nat) : Rat) / ((d : Nat) : Rat)) := by
  obtain ⟨h1, h2⟩ := nat_div n d (by omega)
  refine ⟨?_, ?_⟩
  · unfold Q.m; rw [h1]; exact Nat.lt_of_le_of_lt (Nat.div_le_self _ _) hn
  · rw [h2]; exact Nat.lt_of_le_of_lt (Nat.div_le_self _ _) hd
theorem less_of {q : Rat} {n d : Nat} (hq : 0 < q) (h : n < d) : 0 ≤ q * (((n : Nat) : Rat) / ((d : Nat) : Rat)) ∧ q * (((n : Nat) : Rat) / ((d : Nat) : Rat)) < q := by
  have hd : (0 : Rat) < ((d : Nat) : Rat) := nat_cast_lt (show 0 < d by omega)
  have hn : (0 : Rat) ≤ ((n : Nat) : Rat) := Rat.intCast_nonneg.2 (Int.natCast_nonneg n)
  have hd0 : ((d : Nat) : Rat) ≠ 0 := Rat.ne_of_pos hd
  have hnd := nat_cast_lt h
  have e := Rat.div_mul_cancel (a := ((n : Nat) : Rat)) hd0
  generalize ((n : Nat) : Rat) / ((d : Nat) : Rat) = f at *
  have f1 : f < 1 := by
    apply Decidable.byContradiction; intro hc
    have := Rat.mul_le_mul_of_nonneg_right (Rat.not_lt.1 hc) (Rat.le_of_lt hd)
    grind
  have f0 : 0 ≤ f := by
    refine Rat.le_of_mul_le_mul_right ?_ hd
    rw [e, Rat.zero_mul]; exact hn
  refine ⟨Rat.mul_nonneg (Rat.le_of_lt hq) f0, ?_⟩
  have := Rat.mul_lt_mul_of_pos_left f1 hq
  grind
theorem zero_limbs {q : Rat} (h : ((((Lb.limbs (Q.m q)).length : Int)) == (0 : Int)) = false) : q ≠ 0 := by
  rw [Q.num_len] at h; exact of_decide_eq_false h
theorem level_no {A : Option Addr} {c : Nat} {l : List Rc} {w : World} (hl : Ls w 6 A l.length c (l.map Rc.cells)) (hfr : ∀ x ∈ l, Rc.ok w x) {a : Int} {n d : Nat} (ha : usableB a l = false) :
    Calls Tryz.prog 6 #[.int .i64 a, .slice A l.length c, .int .u16 (n : Int), .int .u16 (d : Int)] w fun e w' => e = .returned (.bool true) ∧ Below w.heap.size w w' := by
 refine V.enter Tryz.func6 rfl rfl (by simp) fun f0 hf => ?_
 have s0 : f0 0 = .int .i64 a := hf 0 (by simp)
 have s1 : f0 1 = .slice A l.length c := hf 1 (by simp)
 have s2 : f0 2 = .int .u16 (n : Int) := hf 2 (by simp)
 have s3 : f0 3 = .int .u16 (d : Int) := hf 3 (by simp)
 clear hf
 have hb : Below w.heap.size w w := Below.refl _ _
 have w_hl := hl
 have w_hfr := hfr
 refine V.seq ?_
 refine V.reg 1 [V.E (.bool false)] [] (V.i hl (V.i hfr hb)) ?_ ?_
 ·refine V.ac ?_ V.an
  ·exact V.z1 rfl fun h => V.xs rfl
 intro f1 W2 hE3
 clear hl hfr hb
 obtain ⟨⟨hl, hfr, hb⟩, hsz⟩ := hE3.g
 obtain ⟨s0, s1, s2, s3⟩ := V.e4 hE3 s0 s1 s2 s3
 have s8 := V.es hE3 0 8 rfl
 clear hE3 hsz
 refine V.t_done rfl (V.nx (V.seq (V.seq ?_)))
 refine V.reg 2 [V.E (.bool true), V.E (.bool false)] [] (V.i hl (V.i hfr hb)) ?_ ?_
 ·refine V.ac ?_ (V.ac ?_ V.an)
  ·refine V.s2 rfl fun f W h => ?_
   refine V.call en11 (V.args0 ) (Calls.mono (awake_s) ?_)
   rintro e W' ⟨rfl, hb⟩
   exact ⟨_, rfl, rfl, hb⟩
  ·exact V.z1 rfl fun h => V.x_un (V.ed h 0 17 rfl)
 intro f4 W5 hE6
 clear hl hfr hb
 obtain ⟨⟨hl, hfr, hb⟩, hsz⟩ := hE6.g
 obtain ⟨s0, s1, s2, s3, s8⟩ := V.e5 hE6 s0 s1 s2 s3 s8
 have s18 := V.es hE6 1 18 rfl
 clear hE6 hsz
 refine V.t_done rfl (V.nx ?_)
 refine V.cond_f (V.ev_tmp rfl s18) ?_
 refine V.skip ?_
 refine V.nx (V.seq (V.seq ?_))
 refine V.reg 4 [V.E (.int .i64 a), V.E (.slice A l.length c), V.E (.bool false), V.E (.bool true)] [] (V.i hl (V.i hfr hb)) ?_ ?_
 ·refine V.ac ?_ (V.ac ?_ (V.ac ?_ (V.ac ?_ V.an)))
  ·exact V.z1 rfl fun h => V.xm (V.eo h 0 s0)
  ·exact V.z1 rfl fun h => V.xm (V.eo h 1 s1)
  ·refine V.s2 rfl fun f W h => ?_
   refine V.call en12 (V.args2 (V.ed h 0 19 rfl) (V.ed h 1 20 rfl)) (Calls.mono (usable_s h.g.1.1 h.g.1.2.1) ?_)
   rintro e W' ⟨e7, hb⟩
   rw [ha] at e7
   subst e7
   exact ⟨_, rfl, rfl, hb⟩
  ·exact V.z1 rfl fun h => V.x_un (V.ed h 2 21 rfl)
 intro f8 W9 hE10
 clear hl hfr hb
 obtain ⟨⟨hl, hfr, hb⟩, hsz⟩ := hE10.g
 obtain ⟨s0, s1, s2, s3, s8⟩ := V.e5 hE10 s0 s1 s2 s3 s8
 have s22 := V.es hE10 3 22 rfl
 clear hE10 hsz
 refine V.t_done rfl (V.nx ?_)
 refine V.cond_t (V.ev_tmp rfl s22) ?_
 refine V.seq ?_
 refine V.reg 1 [V.E (.bool true)] [] (V.i hl (V.i hfr hb)) ?_ ?_
 ·refine V.ac ?_ V.an
  ·exact V.z1 rfl fun h => V.xs rfl
 intro f11 W12 hE13
 clear hl hfr hb
 obtain ⟨⟨hl, hfr, hb⟩, hsz⟩ := hE13.g
 obtain ⟨s0, s1, s2, s3⟩ := V.e4 hE13 s0 s1 s2 s3
 have s8 := V.es hE13 0 8 rfl
 clear hE13 hsz
 refine V.t_done rfl (V.nx (V.ret (V.tr ?_)))
 refine V.leave_any (.inl rfl) (V.res_tmp rfl rfl s8) ?_
 exact ⟨rfl, hb⟩
theorem level_yes {A : Option Addr} {c : Nat} {l : List Cl} {w : World} (hl : Ls w 6 A l.length c (l.map Cl.cells)) (hfr : ∀ x ∈ l, Fr.ok w x.w) (hV : ValidC l) (h10 : l.length ≤ 10) {a : Int} (h0 : 0 ≤ a) (h1 : a ≤ 1099511627776) {n d : Nat} (hn : n < 65536) (hd : d < 65536) :
    Calls Tryz.prog 6 #[.int .i64 a, .slice A l.length c, .int .u16 (n : Int), .int .u16 (d : Int)] w fun e w' => e = .returned (.bool true) ∧ Below w.heap.size w w' := by
 have h20 : l.length < 20 := by omega
 have hgood := hV.g
 have ta0 := tot_nonneg hgood h0
 have ta1 := tot_le (a := a) (l := l)
 refine V.enter Tryz.func6 rfl rfl (by simp) fun f0 hf => ?_
 have s0 : f0 0 = .int .i64 a := hf 0 (by simp)
 have s1 : f0 1 = .slice A l.length c := hf 1 (by simp)
 have s2 : f0 2 = .int .u16 (n : Int) := hf 2 (by simp)
 have s3 : f0 3 = .int .u16 (d : Int) := hf 3 (by simp)
 clear hf
 have hb : Below w.heap.size w w := Below.refl _ _
 have w_hl := hl
 have w_hfr := hfr
 refine V.seq ?_
 refine V.reg 1 [V.E (.bool false)] [] (V.i hl (V.i hfr hb)) ?_ ?_
 ·refine V.ac ?_ V.an
  ·exact V.z1 rfl fun h => V.xs rfl
 intro f14 W15 hE16
 clear hl hfr hb
 obtain ⟨⟨hl, hfr, hb⟩, hsz⟩ := hE16.g
 obtain ⟨s0, s1, s2, s3⟩ := V.e4 hE16 s0 s1 s2 s3
 have s8 := V.es hE16 0 8 rfl
 clear hE16 hsz
 refine V.t_done rfl (V.nx (V.seq (V.seq ?_)))
 refine V.reg 2 [V.E (.bool true), V.E (.bool false)] [] (V.i hl (V.i hfr hb)) ?_ ?_
 ·refine V.ac ?_ (V.ac ?_ V.an)
  ·refine V.s2 rfl fun f W h => ?_
   refine V.call en11 (V.args0 ) (Calls.mono (awake_s) ?_)
   rintro e W' ⟨rfl, hb⟩
   exact ⟨_, rfl, rfl, hb⟩
  ·exact V.z1 rfl fun h => V.x_un (V.ed h 0 17 rfl)
 intro f17 W18 hE19
 clear hl hfr hb
 obtain ⟨⟨hl, hfr, hb⟩, hsz⟩ := hE19.g
 obtain ⟨s0, s1, s2, s3, s8⟩ := V.e5 hE19 s0 s1 s2 s3 s8
 have s18 := V.es hE19 1 18 rfl
 clear hE19 hsz
 refine V.t_done rfl (V.nx ?_)
 refine V.cond_f (V.ev_tmp rfl s18) ?_
 refine V.skip ?_
 refine V.nx (V.seq (V.seq ?_))
 refine V.reg 4 [V.E (.int .i64 a), V.E (.slice A l.length c), V.E (.bool true), V.E (.bool false)] [] (V.i hl (V.i hfr hb)) ?_ ?_
 ·refine V.ac ?_ (V.ac ?_ (V.ac ?_ (V.ac ?_ V.an)))
  ·exact V.z1 rfl fun h => V.xm (V.eo h 0 s0)
  ·exact V.z1 rfl fun h => V.xm (V.eo h 1 s1)
  ·refine V.s2 rfl fun f W h => ?_
   refine V.call en12 (V.args2 (V.ed h 0 19 rfl) (V.ed h 1 20 rfl)) (Calls.mono (usable_t h.g.1.1 h.g.1.2.1 hV h10 h0 h1) ?_)
   rintro e W' ⟨rfl, hb⟩
   exact ⟨_, rfl, rfl, hb⟩
  ·exact V.z1 rfl fun h => V.x_un (V.ed h 2 21 rfl)
 intro f20 W21 hE22
 clear hl hfr hb
 obtain ⟨⟨hl, hfr, hb⟩, hsz⟩ := hE22.g
 obtain ⟨s0, s1, s2, s3, s8⟩ := V.e5 hE22 s0 s1 s2 s3 s8
 have s22 := V.es hE22 3 22 rfl
 clear hE22 hsz
 refine V.t_done rfl (V.nx ?_)
 refine V.cond_f (V.ev_tmp rfl s22) ?_
 refine V.skip ?_
 refine V.nx (V.seq ?_)
 refine V.reg 7 [V.E (.int .i64 a), V.E (.slice A l.length c), (fun v W => ∃ z23 : Fr, v = .tuple #[z23.v, .int .i64 0] ∧ Fr.ok W z23 ∧ (LevOf a l z23.q)), (fun v W => ∃ z26 : Fr, v = .tuple #[z26.v, .int .i64 0] ∧ Fr.ok W z26 ∧ (LevOf a l z26.q)), (fun v W => ∃ z27 : Fr, v = z27.v ∧ Fr.ok W z27 ∧ (LevOf a l z27.q)), V.E (.int .i64 0), V.Nb W21 39 #[.bool false, .slice none 0 0, .bool false, .slice none 0 0]] [6] (V.i hl (V.i hfr hb)) ?_ ?_
 ·refine V.ac ?_ (V.ac ?_ (V.ac ?_ (V.ac ?_ (V.ac ?_ (V.ac ?_ (V.ac ?_ V.an))))))
  ·exact V.z1 rfl fun h => V.xm (V.eo h 0 s0)
  ·exact V.z1 rfl fun h => V.xm (V.eo h 1 s1)
  ·refine V.s2 rfl fun f W h => ?_
   refine V.call en21 (V.args2 (V.ed h 0 24 rfl) (V.ed h 1 25 rfl)) (Calls.mono (Level_s h.g.1.1 h.g.1.2.1 hV h20 h0 h1) ?_)
   rintro e W' ⟨z23, rfl, k24, e25, hb⟩
   exact ⟨_, rfl, ⟨z23, rfl, k24, e25⟩, hb⟩
  ·refine V.s2 rfl fun f W h => ?_
   obtain ⟨z23, a26, k2_0, p2_0⟩ := V.dp h 2 26 (by kernel_rfl) rfl
   exact V.v2 (.tuple #[z23.v, .int .i64 0]) (V.xm (V.ev_tmp rfl a26)) ⟨z23, rfl, k2_0, p2_0⟩
  ·refine V.s2 rfl fun f W h => ?_
   obtain ⟨z26, a23, k3_0, p3_0⟩ := V.dp h 3 23 (by kernel_rfl) rfl
   exact V.v2 (z26.v) (V.xe (V.ev_tmp rfl a23)) ⟨z26, rfl, k3_0, p3_0⟩
  ·refine V.s1 rfl fun f W h => ?_
   obtain ⟨z26, a23, k3_0, p3_0⟩ := V.dp h 3 23 (by kernel_rfl) rfl
   exact V.xe (V.ev_tmp rfl a23)
  ·exact V.sn rfl fun f W h => V.x_alloc
 have o_bel := hb.size
 have ob_hl := hl.blt
 intro f29 W30 hE31
 clear hl hfr hb
 obtain ⟨⟨hl, hfr, hb⟩, hsz⟩ := hE31.g
 obtain ⟨s0, s1, s2, s3, s8⟩ := V.e5 hE31 s0 s1 s2 s3 s8
 obtain ⟨z27, s27, r32, n33⟩ := V.eq hE31 4 27 rfl
 have s28 := V.es hE31 5 28 rfl
 obtain ⟨g28, s9, b_g28, l_g28⟩ := V.eq hE31 6 9 rfl
 have m_g28 : w.heap.size ≤ g28 := Nat.le_trans o_bel l_g28
 have q_hl_g28 : 0 < l.length → (adr A).block ≠ g28 := fun h => Nat.ne_of_lt (Nat.lt_of_lt_of_le (ob_hl h) l_g28)
 clear hE31 hsz
 clear o_bel ob_hl
 refine V.t_st (k := 7) rfl (V.x_store (V.ev_tmp rfl s9) (V.ev_tmp rfl s27) (V.st_row b_g28)) b_g28 fun W34 hs b' => ?_
 replace hl := hs.ls hl q_hl_g28
 replace hfr := (fun x_0 hx_0 => hs.fr (hfr x_0 hx_0))
 replace hb := hs.bel hb m_g28
 replace r32 := hs.fr r32
 replace b_g28 := b'
 clear hs b'
 refine V.t_val (k := 8) (v := .int .i64 0) (t := 10) rfl rfl rfl (by kernel_rfl) trivial (V.xs (V.ev_tmp rfl s28)) ?_
 intro f35 e36 u37
 replace s0 : f35 0 = .int .i64 a := (u37 0 (by decide)).trans s0
 replace s1 : f35 1 = .slice A l.length c := (u37 1 (by decide)).trans s1
 replace s2 : f35 2 = .int .u16 (n : Int) := (u37 2 (by decide)).trans s2
 replace s3 : f35 3 = .int .u16 (d : Int) := (u37 3 (by decide)).trans s3
 replace s8 : f35 8 = .bool false := (u37 8 (by decide)).trans s8
 replace s27 : f35 27 = z27.v := (u37 27 (by decide)).trans s27
 replace s28 : f35 28 = .int .i64 0 := (u37 28 (by decide)).trans s28
 replace s9 : f35 9 = Vp g28 0 := (u37 9 (by decide)).trans s9
 have s10 := e36
 clear u37
 refine V.t_done rfl ?_
 have hlz := n33.is hgood h0
 have z0 := hlz.nn
 have hz99 := n33.sz h1 hgood h20
 have hzn : Q.neg z27.q = false := by unfold Q.neg; exact decide_eq_false (Int.not_lt.2 (Rat.num_nonneg.2 z0))
 refine V.nx (V.seq ?_)
 refine V.reg 8 [V.E (.int .i64 a), V.E (.slice A l.length c), (fun v W => ∃ g38 : Nat, ∃ xs39 : List Fr, ∃ t40 : Rat, v = .tuple #[.slice (some ⟨g38, 0, none⟩) l.length l.length, .int .i64 0] ∧ Own W g38 39 4 (xs39.map Fr.cells) ([]) ∧ (∀ x ∈ xs39, Fr.ok W x) ∧ (LevOf a l t40) ∧ (ExP l t40 xs39) ∧ (w.heap.size ≤ g38) ∧ (W34.heap.size ≤ g38)), (fun v W => ∃ g46 : Nat, ∃ xs47 : List Fr, ∃ t48 : Rat, v = .tuple #[.slice (some ⟨g46, 0, none⟩) l.length l.length, .int .i64 0] ∧ Own W g46 39 4 (xs47.map Fr.cells) ([]) ∧ (∀ x ∈ xs47, Fr.ok W x) ∧ (LevOf a l t48) ∧ (ExP l t48 xs47) ∧ (w.heap.size ≤ g46) ∧ (W34.heap.size ≤ g46)), (fun v W => ∃ g49 : Nat, ∃ xs50 : List Fr, ∃ t51 : Rat, v = .slice (some ⟨g49, 0, none⟩) l.length l.length ∧ Own W g49 39 4 (xs50.map Fr.cells) ([]) ∧ (∀ x ∈ xs50, Fr.ok W x) ∧ (LevOf a l t51) ∧ (ExP l t51 xs50) ∧ (w.heap.size ≤ g49) ∧ (W34.heap.size ≤ g49)), V.E (.int .i64 0), (fun v W => ∃ g52 : Nat, ∃ xs53 : List Fr, ∃ t54 : Rat, v = .slice (some ⟨g52, 0, none⟩) l.length l.length ∧ Own W g52 39 4 (xs53.map Fr.cells) ([]) ∧ (∀ x ∈ xs53, Fr.ok W x) ∧ (LevOf a l t54) ∧ (ExP l t54 xs53) ∧ (w.heap.size ≤ g52) ∧ (W34.heap.size ≤ g52)), V.E (.int .i64 0)] [] (V.i hl (V.i hfr (V.i hb (V.i r32 b_g28)))) ?_ ?_
 ·refine V.ac ?_ (V.ac ?_ (V.ac ?_ (V.ac ?_ (V.ac ?_ (V.ac ?_ (V.ac ?_ (V.ac ?_ V.an)))))))
  ·exact V.z1 rfl fun h => V.xm (V.eo h 0 s0)
  ·exact V.z1 rfl fun h => V.xm (V.eo h 1 s1)
  ·refine V.s2 rfl fun f W h => ?_
   refine V.call en14 (V.args2 (V.ed h 0 30 rfl) (V.ed h 1 31 rfl)) (Calls.mono (Exact_s h.g.1.1 h.g.1.2.1 hV h20 h0 h1) ?_)
   rintro e W' ⟨g38, xs39, t40, rfl, p41, p42, p43, p44, p45, hb⟩
   exact ⟨_, rfl, ⟨g38, xs39, t40, rfl, p43, p44, p41, p42, Nat.le_trans h.g.1.2.2.1.size p45, Nat.le_trans h.g.2 p45⟩, hb⟩
  ·refine V.s2 rfl fun f W h => ?_
   obtain ⟨g38, xs39, t40, a32, k2_0, k2_1, p2_0, p2_1, p2_2, p2_3⟩ := V.dp h 2 32 (by kernel_rfl) rfl
   exact V.v2 (.tuple #[.slice (some ⟨g38, 0, none⟩) l.length l.length, .int .i64 0]) (V.xm (V.ev_tmp rfl a32)) ⟨g38, xs39, t40, rfl, k2_0, k2_1, p2_0, p2_1, p2_2, p2_3⟩
  ·refine V.s2 rfl fun f W h => ?_
   obtain ⟨g46, xs47, t48, a29, k3_0, k3_1, p3_0, p3_1, p3_2, p3_3⟩ := V.dp h 3 29 (by kernel_rfl) rfl
   exact V.v2 (.slice (some ⟨g46, 0, none⟩) l.length l.length) (V.xe (V.ev_tmp rfl a29)) ⟨g46, xs47, t48, rfl, k3_0, k3_1, p3_0, p3_1, p3_2, p3_3⟩
  ·refine V.s1 rfl fun f W h => ?_
   obtain ⟨g46, xs47, t48, a29, k3_0, k3_1, p3_0, p3_1, p3_2, p3_3⟩ := V.dp h 3 29 (by kernel_rfl) rfl
   exact V.xe (V.ev_tmp rfl a29)
  ·refine V.s2 rfl fun f W h => ?_
   obtain ⟨g49, xs50, t51, a33, k4_0, k4_1, p4_0, p4_1, p4_2, p4_3⟩ := V.dp h 4 33 (by kernel_rfl) rfl
   exact V.v2 (.slice (some ⟨g49, 0, none⟩) l.length l.length) (V.xs (V.ev_tmp rfl a33)) ⟨g49, xs50, t51, rfl, k4_0, k4_1, p4_0, p4_1, p4_2, p4_3⟩
  ·exact V.z1 rfl fun h => V.xs (V.ed h 5 34 rfl)
 have o_g28 := b_g28.lt
 intro f55 W56 hE57
 clear hl hfr hb r32 b_g28
 obtain ⟨⟨hl, hfr, hb, r32, b_g28⟩, hsz⟩ := hE57.g
 obtain ⟨s0, s1, s2, s3, s8, s9, s10⟩ := V.e7 hE57 s0 s1 s2 s3 s8 s9 s10
 obtain ⟨g52, xs53, t54, s11, r58, r59, n60, n61, n62, n63⟩ := V.eq hE57 6 11 rfl
 have s12 := V.es hE57 7 12 rfl
 clear hE57 hsz
 clear o_g28
 refine V.t_done rfl ?_
 have hte := (n60.is hgood h0).uniq hlz hgood
 refine V.nx (V.seq ?_)
 refine V.reg 5 [V.E (.int .i64 a), V.E (.slice A l.length c), V.E (.int .i64 (tot a l)), (fun v W => ∃ z66 : Fr, v = z66.v ∧ Fr.ok W z66 ∧ (z66.q = ((((tot a l) : Int) : Rat) : Rat))), V.Nb W56 39 #[.bool false, .slice none 0 0, .bool false, .slice none 0 0]] [4] (V.i hl (V.i hfr (V.i hb (V.i r32 (V.i b_g28 (V.i r58 r59)))))) ?_ ?_
 ·refine V.ac ?_ (V.ac ?_ (V.ac ?_ (V.ac ?_ (V.ac ?_ V.an))))
  ·exact V.z1 rfl fun h => V.xm (V.eo h 0 s0)
  ·exact V.z1 rfl fun h => V.xm (V.eo h 1 s1)
  ·refine V.s2 rfl fun f W h => ?_
   refine V.call en22 (V.args2 (V.ed h 0 35 rfl) (V.ed h 1 36 rfl)) (Calls.mono (total_s h.g.1.1 h.g.1.2.1 hV h20 h0 h1) ?_)
   rintro e W' ⟨rfl, hb⟩
   exact ⟨_, rfl, rfl, hb⟩
  ·refine V.s2 rfl fun f W h => ?_
   refine V.call en20 (V.args1 (V.ed h 2 37 rfl)) (Calls.mono (FromInt_s (x := (tot a l)) (by omega) (by omega)) ?_)
   rintro e W' ⟨z66, rfl, k67, e68, hb⟩
   exact ⟨_, rfl, ⟨z66, rfl, k67, e68⟩, hb⟩
  ·exact V.sn rfl fun f W h => V.x_alloc
 have o_g28 := b_g28.lt
 have o_g52 := r58.blk.lt
 have o_bel := hb.size
 have ob_hl := hl.blt
 intro f70 W71 hE72
 clear hl hfr hb r32 b_g28 r58 r59
 obtain ⟨⟨hl, hfr, hb, r32, b_g28, r58, r59⟩, hsz⟩ := hE72.g
 obtain ⟨s0, s1, s2, s3, s8, s9, s10, s11, s12⟩ := V.e9 hE72 s0 s1 s2 s3 s8 s9 s10 s11 s12
 obtain ⟨z66, s38, r73, n74⟩ := V.eq hE72 3 38 rfl
 obtain ⟨g69, s13, b_g69, l_g69⟩ := V.eq hE72 4 13 rfl
 have m_g69 : w.heap.size ≤ g69 := Nat.le_trans o_bel l_g69
 have q_g28_g69 : g28 ≠ g69 := by omega
 have q_g52_g69 : g52 ≠ g69 := by omega
 have q_hl_g69 : 0 < l.length → (adr A).block ≠ g69 := fun h => Nat.ne_of_lt (Nat.lt_of_lt_of_le (ob_hl h) l_g69)
 clear hE72 hsz
 clear o_bel o_g28 o_g52 ob_hl
 refine V.t_st (k := 5) rfl (V.x_store (V.ev_tmp rfl s13) (V.ev_tmp rfl s38) (V.st_row b_g69)) b_g69 fun W75 hs b' => ?_
 replace hl := hs.ls hl q_hl_g69
 replace hfr := (fun x_0 hx_0 => hs.fr (hfr x_0 hx_0))
 replace hb := hs.bel hb m_g69
 replace r32 := hs.fr r32
 replace b_g28 := hs.blk b_g28 q_g28_g69
 replace r58 := hs.own r58 q_g52_g69
 replace r59 := (fun x_0 hx_0 => hs.fr (r59 x_0 hx_0))
 replace r73 := hs.fr r73
 replace b_g69 := b'
 clear hs b'
 refine V.t_done rfl (V.nx (V.seq (V.seq ?_)))
 refine V.reg 31 [V.E (.int .i64 0), V.E (.bool false), V.E (.bool false), (V.Gd (!false) (V.E (.int .i64 0))), (V.Gd (!false) (V.E (.bool false))), V.E (.bool false), V.E (.bool false), (V.Gd (!false) (V.E (.slice (some ⟨g52, 0, none⟩) l.length l.length))), (V.Gd (!false) (V.E (.int .i64 (l.length : Int)))), (V.Gd (!false) (V.E (.slice A l.length c))), (V.Gd (!false) (V.E (.int .i64 (l.length : Int)))), (V.Gd (!false) (V.E (.bool false))), V.E (.bool false), V.E (.bool false), (V.Gd (!false) (V.E (Vp g28 0))), (V.Gd (!false) (V.E (Vp g28 0))), (V.Gd (!false) (V.E (.bool (Q.neg z27.q)))), V.E (.bool false), V.E (.bool false), (V.Gd (!false) (V.E (z27.v))), (V.Gd (!false) (V.E (.slice A l.length c))), (V.Gd (!false) (fun v W => ∃ z76 : Fr, v = z76.v ∧ Fr.ok W z76 ∧ (z76.q = (S z27.q l)))), (V.Gd (!false) (V.E (z66.v))), (V.Gd (!false) (V.E (.int .i64 (Q.cmp (S z27.q l) ((((tot a l) : Int) : Rat) : Rat))))), (V.Gd (!false) (V.E (.bool false))), V.E (.bool false), V.E (.bool false), (V.Gd (!false) (V.E (z27.v))), (V.Gd (!false) (V.E (.bool true))), (V.Gd (!false) (V.E (.bool false))), V.E (.bool false)] [] (V.i hl (V.i hfr (V.i hb (V.i r32 (V.i b_g28 (V.i r58 (V.i r59 (V.i r73 b_g69)))))))) ?_ ?_
 ·refine V.ac ?_ (V.ac ?_ (V.ac ?_ (V.ac ?_ (V.ac ?_ (V.ac ?_ (V.ac ?_ (V.ac ?_ (V.ac ?_ (V.ac ?_ (V.ac ?_ (V.ac ?_ (V.ac ?_ (V.ac ?_ (V.ac ?_ (V.ac ?_ (V.ac ?_ (V.ac ?_ (V.ac ?_ (V.ac ?_ (V.ac ?_ (V.ac ?_ (V.ac ?_ (V.ac ?_ (V.ac ?_ (V.ac ?_ (V.ac ?_ (V.ac ?_ (V.ac ?_ (V.ac ?_ (V.ac ?_ V.an))))))))))))))))))))))))))))))
  ·exact V.z1 rfl fun h => V.xm (V.eo h 10 s10)
  ·exact V.z1 rfl fun h => V.xb (V.ed h 0 39 rfl) rfl
  ·exact V.z1 rfl fun h => V.xm (V.ed h 1 40 rfl)
  ·exact V.gf 2 41 rfl rfl fun hp f W h => V.v1 (V.xm (V.eo h 12 s12))
  ·exact V.gf 2 41 rfl rfl fun hp f W h => V.v1 (V.xb (V.eg h 3 42 rfl hp) rfl)
  ·refine V.s1 rfl fun f W h => ?_
   have d43 := V.dp h 4 43 (by kernel_rfl) rfl
   exact V.x_pick_f (V.ed h 2 41 rfl) (V.ev_tmp rfl (V.gd_on d43 rfl))
  ·exact V.z1 rfl fun h => V.xm (V.ed h 5 44 rfl)
  ·exact V.gf 6 45 rfl rfl fun hp f W h => V.v1 (V.xm (V.eo h 11 s11))
  ·exact V.gf 6 45 rfl rfl fun hp f W h => V.v1 (V.x_len (V.eg h 7 46 rfl hp))
  ·exact V.gf 6 45 rfl rfl fun hp f W h => V.v1 (V.xm (V.eo h 1 s1))
  ·exact V.gf 6 45 rfl rfl fun hp f W h => V.v1 (V.x_len (V.eg h 9 48 rfl hp))
  ·exact V.gf 6 45 rfl rfl fun hp f W h => V.v1 (V.xb (V.eg h 8 47 rfl hp) (V.eg h 10 49 rfl hp) ((by kernel_rfl : _ = Result.ok (.bool ((l.length : Int) != (l.length : Int))) _).trans (by rw [bne_self_eq_false])))
  ·refine V.s1 rfl fun f W h => ?_
   have d50 := V.dp h 11 50 (by kernel_rfl) rfl
   exact V.x_pick_f (V.ed h 6 45 rfl) (V.ev_tmp rfl (V.gd_on d50 rfl))
  ·exact V.z1 rfl fun h => V.xm (V.ed h 12 51 rfl)
  ·exact V.gf 13 52 rfl rfl fun hp f W h => V.v1 (V.xa (V.eo h 9 s9))
  ·exact V.gf 13 52 rfl rfl fun hp f W h => V.v1 (V.xa (V.eg h 14 53 rfl hp))
  ·exact V.gf 13 52 rfl rfl fun hp f W h => V.v1 (V.xl (V.eg h 15 54 rfl hp) (V.lo h.g.1.2.2.2.2.1 rfl))
  ·refine V.s1 rfl fun f W h => ?_
   have d55 := V.dp h 16 55 (by kernel_rfl) rfl
   exact (V.x_pick_f (V.ed h 13 52 rfl) (V.ev_tmp rfl (V.gd_on d55 rfl))).trans (by rw [hzn])
  ·exact V.z1 rfl fun h => V.xm (V.ed h 17 56 rfl)
  ·exact V.gf 18 57 rfl rfl fun hp f W h => V.v1 (V.xl (V.eo h 9 s9) (V.lr h.g.1.2.2.2.2.1 Tryz.underlying39))
  ·exact V.gf 18 57 rfl rfl fun hp f W h => V.v1 (V.xm (V.eo h 1 s1))
  ·refine V.gf 18 57 rfl rfl fun hp f W h => ?_
   refine V.call en24 (V.args2 (V.eg h 19 58 rfl hp) (V.eg h 20 59 rfl hp)) (Calls.mono (sumAt_s h.g.1.2.2.2.1 h.g.1.1 h.g.1.2.1 hV.g h10 (hz99.mono (by decide)) z0) ?_)
   rintro e W' ⟨z76, rfl, k77, e78, hb⟩
   exact ⟨_, rfl, ⟨z76, rfl, k77, e78⟩, hb⟩
  ·exact V.gf 18 57 rfl rfl fun hp f W h => V.v1 (V.xl (V.eo h 13 s13) (V.lr h.g.1.2.2.2.2.2.2.2.2 Tryz.underlying39))
  ·refine V.gf 18 57 rfl rfl fun hp f W h => ?_
   obtain ⟨z76, a60, k21_0, p21_0⟩ := V.gd_on (V.dp h 21 60 (by kernel_rfl) rfl) hp
   refine V.call en19 (V.args2 (V.ev_tmp rfl a60) (V.eg h 22 61 rfl hp)) (Calls.mono (Cmp_s k21_0 h.g.1.2.2.2.2.2.2.2.1 (by rw [p21_0]; exact ((S_sz z0 (hz99.mono (by decide)) hgood h10).mono (by decide))) (by rw [n74]; exact ((Q.Sz.cap ta0 (by omega)).mono (by decide)))) ?_)
   rintro e W' ⟨e79, hb⟩
   rw [p21_0, n74] at e79
   subst e79
   exact ⟨_, rfl, rfl, hb⟩
  ·exact V.gf 18 57 rfl rfl fun hp f W h => V.v1 (V.xb (V.eg h 23 62 rfl hp) rfl ((by kernel_rfl : _ = Result.ok (.bool (((Q.cmp (S z27.q l) ((((tot a l) : Int) : Rat) : Rat)) != (0 : Int)))) _).trans (by rw [show (((Q.cmp (S z27.q l) ((((tot a l) : Int) : Rat) : Rat)) != (0 : Int))) = false from cmp_eq0 hlz.sum])))
  ·refine V.s1 rfl fun f W h => ?_
   have d63 := V.dp h 24 63 (by kernel_rfl) rfl
   exact V.x_pick_f (V.ed h 18 57 rfl) (V.ev_tmp rfl (V.gd_on d63 rfl))
  ·exact V.z1 rfl fun h => V.xm (V.ed h 25 64 rfl)
  ·exact V.gf 26 65 rfl rfl fun hp f W h => V.v1 (V.xl (V.eo h 9 s9) (V.lr h.g.1.2.2.2.2.1 Tryz.underlying39))
  ·refine V.gf 26 65 rfl rfl fun hp f W h => ?_
   refine V.call en25 (V.args1 (V.eg h 27 66 rfl hp)) (Calls.mono (Valid_q (Fr.ok.n h.g.1.2.2.2.1) (Fr.ok.d h.g.1.2.2.2.1) (hz99.mono (by decide))) ?_)
   rintro e W' ⟨rfl, hb⟩
   exact ⟨_, rfl, rfl, hb⟩
  ·exact V.gf 26 65 rfl rfl fun hp f W h => V.v1 (V.x_un (V.eg h 28 67 rfl hp))
  ·refine V.s1 rfl fun f W h => ?_
   have d68 := V.dp h 29 68 (by kernel_rfl) rfl
   exact V.x_pick_f (V.ed h 26 65 rfl) (V.ev_tmp rfl (V.gd_on d68 rfl))
 intro f80 W81 hE82
 clear hl hfr hb r32 b_g28 r58 r59 r73 b_g69
 obtain ⟨⟨hl, hfr, hb, r32, b_g28, r58, r59, r73, b_g69⟩, hsz⟩ := hE82.g
 obtain ⟨s0, s1, s2, s3, s8, s9, s11, s13⟩ := V.e8 hE82 s0 s1 s2 s3 s8 s9 s11 s13
 have s69 := V.es hE82 30 69 rfl
 clear hE82 hsz
 refine V.t_done rfl (V.nx ?_)
 refine V.cond_f (V.ev_tmp rfl s69) ?_
 refine V.skip ?_
 refine V.nx (V.seq (V.seq ?_))
 refine V.reg 1 [V.E (.int .i64 0)] [] (V.i hl (V.i hfr (V.i hb (V.i r32 (V.i b_g28 (V.i r58 (V.i r59 (V.i r73 b_g69)))))))) ?_ ?_
 ·refine V.ac ?_ V.an
  ·exact V.z1 rfl fun h => V.xs rfl
 intro f83 W84 hE85
 clear hl hfr hb r32 b_g28 r58 r59 r73 b_g69
 obtain ⟨⟨hl, hfr, hb, r32, b_g28, r58, r59, r73, b_g69⟩, hsz⟩ := hE85.g
 obtain ⟨s0, s1, s2, s3, s8, s9, s11, s13⟩ := V.e8 hE85 s0 s1 s2 s3 s8 s9 s11 s13
 have s14 := V.es hE85 0 14 rfl
 clear hE85 hsz
 refine V.t_done rfl (V.nx (V.block ?_))
 refine V.loop (fun k f W => ∃ i : Nat, (k = l.length - i ∧ (i ≤ l.length)) ∧ (f 1 = .slice A l.length c ∧ f 2 = .int .u16 (n : Int) ∧ f 3 = .int .u16 (d : Int) ∧ f 9 = Vp g28 0 ∧ f 11 = .slice (some ⟨g52, 0, none⟩) l.length l.length ∧ f 13 = Vp g69 0 ∧ f 14 = .int .i64 (i : Int)) ∧ (Below w.heap.size w W ∧ Ls W 6 A l.length c (l.map Cl.cells) ∧ (∀ x ∈ l, Fr.ok W x.w) ∧ Own W g52 39 4 (xs53.map Fr.cells) ([]) ∧ (∀ x ∈ xs53, Fr.ok W x) ∧ Blk W g28 39 z27.cs ∧ Fr.ok W z27 ∧ Blk W g69 39 z66.cs ∧ Fr.ok W z66)) (l.length - 0) ⟨0, ⟨rfl, by omega⟩, ⟨s1, s2, s3, s9, s11, s13, (s14.trans (by simp))⟩, ⟨hb, hl, hfr, r58, r59, b_g28, r32, b_g69, r73⟩⟩ ?_
 clear hl hfr hb r32 b_g28 r58 r59 r73 b_g69 s0 s1 s2 s3 s8 s9 s11 s13 s14
 rintro k88 f86 W87 ⟨i, ⟨hk98, hil⟩, ⟨s1, s2, s3, s9, s11, s13, s14⟩, ⟨r89, r90, r91, r92, r93, r94, r95, r96, r97⟩⟩
 refine V.seq (V.seq ?_)
 refine V.reg 4 [V.E (.int .i64 (i : Int)), V.E (.slice A l.length c), V.E (.int .i64 (l.length : Int)), V.E (.bool (decide ((i : Int) < (l.length : Int))))] [] (V.i r89 (V.i r90 (V.i r91 (V.i r92 (V.i r93 (V.i r94 (V.i r95 (V.i r96 r97)))))))) ?_ ?_
 ·refine V.ac ?_ (V.ac ?_ (V.ac ?_ (V.ac ?_ V.an)))
  ·exact V.z1 rfl fun h => V.xm (V.eo h 14 s14)
  ·exact V.z1 rfl fun h => V.xm (V.eo h 1 s1)
  ·exact V.z1 rfl fun h => V.x_len (V.ed h 1 71 rfl)
  ·exact V.z1 rfl fun h => V.xb (V.ed h 0 70 rfl) (V.ed h 2 72 rfl)
 intro f99 W100 hE101
 clear r89 r90 r91 r92 r93 r94 r95 r96 r97
 obtain ⟨⟨r89, r90, r91, r92, r93, r94, r95, r96, r97⟩, hsz⟩ := hE101.g
 obtain ⟨s1, s2, s3, s9, s11, s13, s14⟩ := V.e7 hE101 s1 s2 s3 s9 s11 s13 s14
 have s73 := V.es hE101 3 73 rfl
 clear hE101 hsz
 refine V.t_done rfl (V.nx ?_)
 cases hc102 : (decide ((i : Int) < (l.length : Int)))
 ·have s73_ : f99 73 = .bool false := s73.trans (by rw [hc102])
  refine V.cond_f (V.ev_tmp rfl s73_) ?_
  refine V.exit (V.tx (V.tx (V.bx (V.nx (V.seq (V.seq ?_))))))
  refine V.reg 10 [V.E (.int .u16 (n : Int)), V.E (.int .u16 (d : Int)), V.E (.bool (decide ((d : Int) ≤ (n : Int)))), V.E (.bool (decide ((d : Int) ≤ (n : Int)))), (V.Gd (!(decide ((d : Int) ≤ (n : Int)))) (V.E (Vp g28 0))), (V.Gd (!(decide ((d : Int) ≤ (n : Int)))) (V.E (Vp g28 1))), (V.Gd (!(decide ((d : Int) ≤ (n : Int)))) (V.E (Vs z27.A (Q.m z27.q) z27.c))), (V.Gd (!(decide ((d : Int) ≤ (n : Int)))) (V.E (.int .i64 ((Lb.limbs (Q.m z27.q)).length : Int)))), (V.Gd (!(decide ((d : Int) ≤ (n : Int)))) (V.E (.bool (((Lb.limbs (Q.m z27.q)).length : Int) == (0 : Int))))), V.E (.bool ((decide ((d : Int) ≤ (n : Int))) || (((Lb.limbs (Q.m z27.q)).length : Int) == (0 : Int))))] [] (V.i r89 (V.i r90 (V.i r91 (V.i r92 (V.i r93 (V.i r94 (V.i r95 (V.i r96 r97)))))))) ?_ ?_
  ·refine V.ac ?_ (V.ac ?_ (V.ac ?_ (V.ac ?_ (V.ac ?_ (V.ac ?_ (V.ac ?_ (V.ac ?_ (V.ac ?_ (V.ac ?_ V.an)))))))))
   ·exact V.z1 rfl fun h => V.xm (V.eo h 2 s2)
   ·exact V.z1 rfl fun h => V.xm (V.eo h 3 s3)
   ·exact V.z1 rfl fun h => V.xb (V.ed h 0 88 rfl) (V.ed h 1 89 rfl)
   ·exact V.z1 rfl fun h => V.xm (V.ed h 2 90 rfl)
   ·exact V.gf 3 91 rfl rfl fun hp f W h => V.v1 (V.xa (V.eo h 9 s9))
   ·exact V.gf 3 91 rfl rfl fun hp f W h => V.v1 (V.xa (V.eg h 4 92 rfl hp))
   ·exact V.gf 3 91 rfl rfl fun hp f W h => V.v1 (V.xl (V.eg h 5 93 rfl hp) (V.lo h.g.1.2.2.2.2.2.1 rfl))
   ·exact V.gf 3 91 rfl rfl fun hp f W h => V.v1 (V.x_len (V.eg h 6 94 rfl hp))
   ·exact V.gf 3 91 rfl rfl fun hp f W h => V.v1 (V.xb (V.eg h 7 95 rfl hp) rfl)
   ·refine V.s1 rfl fun f W h => ?_
    have d96 := V.dp h 8 96 (by kernel_rfl) rfl
    exact V.x_or (V.ed h 3 91 rfl) rfl (fun e => V.ev_tmp rfl (V.gd_on d96 (V.not_t e)))
  intro f103 W104 hE105
  clear r89 r90 r91 r92 r93 r94 r95 r96 r97
  obtain ⟨⟨r89, r90, r91, r92, r93, r94, r95, r96, r97⟩, hsz⟩ := hE105.g
  obtain ⟨s1, s2, s3, s9, s13⟩ := V.e5 hE105 s1 s2 s3 s9 s13
  have s97 := V.es hE105 9 97 rfl
  clear hE105 hsz
  refine V.t_done rfl (V.nx ?_)
  cases hc106 : ((decide ((d : Int) ≤ (n : Int))) || (((Lb.limbs (Q.m z27.q)).length : Int) == (0 : Int)))
  ·have s97_ : f103 97 = .bool false := s97.trans (by rw [hc106])
   refine V.cond_f (V.ev_tmp rfl s97_) ?_
   have hnz := hc106
   obtain ⟨hnz1, hnz2⟩ : decide ((d : Int) ≤ (n : Int)) = false ∧ ((((Lb.limbs (Q.m z27.q)).length : Int)) == (0 : Int)) = false := by simpa only [Bool.or_eq_false_iff] using hnz
   have hnd : n < d := by have := of_decide_eq_false hnz1; omega
   have hz0 := zero_limbs hnz2
   have hls := less_of (q := z27.q) (n := n) (d := d) (by grind) hnd
   refine V.skip ?_
   refine V.nx (V.seq ?_)
   refine V.regF 11 [V.E (z27.v), V.E (.int .u16 (n : Int)), V.E (.int .i64 (n : Int)), V.E (.int .u16 (d : Int)), V.E (.int .i64 (d : Int)), (fun v W => ∃ z109 : Fr, v = z109.v ∧ Fr.ok W z109 ∧ (z109.q = (((n : Nat) : Rat) / ((d : Nat) : Rat)))), (fun v W => ∃ z112 : Fr, v = .tuple #[z112.v, .int .i64 0] ∧ Fr.ok W z112 ∧ (z112.q = (z27.q * (((n : Nat) : Rat) / ((d : Nat) : Rat))))), (fun v W => ∃ z115 : Fr, v = .tuple #[z115.v, .int .i64 0] ∧ Fr.ok W z115 ∧ (z115.q = (z27.q * (((n : Nat) : Rat) / ((d : Nat) : Rat))))), (fun v W => ∃ z116 : Fr, v = z116.v ∧ Fr.ok W z116 ∧ (z116.q = (z27.q * (((n : Nat) : Rat) / ((d : Nat) : Rat))))), V.E (.int .i64 0), V.Nb W104 39 #[.bool false, .slice none 0 0, .bool false, .slice none 0 0]] [10] (V.i r89 (V.i r90 (V.i r91 (V.i r92 (V.i r93 (V.i r94 (V.i r95 (V.i r96 r97)))))))) [9] (fun _ => True) (fun _ _ => trivial) ?_ ?_ ?_
   ·refine V.ac ?_ (V.ac ?_ (V.ac ?_ (V.ac ?_ (V.ac ?_ (V.ac ?_ (V.ac ?_ (V.ac ?_ (V.ac ?_ (V.ac ?_ (V.ac ?_ V.an))))))))))
    ·exact V.z1 rfl fun h => V.xl (V.eo h 9 s9) (V.lr h.g.1.2.2.2.2.2.1 Tryz.underlying39)
    ·exact V.z1 rfl fun h => V.xm (V.eo h 2 s2)
    ·refine V.s1 rfl fun f W h => ?_
     have hw107 : IntKind.i64.wrap ((n : Int)) = (n : Int) := by exact IntWalk.i64_in _ (by omega)
     exact V.x_convert (V.ed h 1 100 rfl) ((by kernel_rfl : _ = Result.ok (.int .i64 (IntKind.i64.wrap ((n : Int)))) _).trans (by rw [hw107]))
    ·exact V.z1 rfl fun h => V.xm (V.eo h 3 s3)
    ·refine V.s1 rfl fun f W h => ?_
     have hw108 : IntKind.i64.wrap ((d : Int)) = (d : Int) := by exact IntWalk.i64_in _ (by omega)
     exact V.x_convert (V.ed h 3 102 rfl) ((by kernel_rfl : _ = Result.ok (.int .i64 (IntKind.i64.wrap ((d : Int)))) _).trans (by rw [hw108]))
    ·refine V.s2 rfl fun f W h => ?_
     refine V.call en29 (V.args2 (V.ed h 2 101 rfl) (V.ed h 4 103 rfl)) (Calls.mono (RQuick (m := n) (k := d) (by omega) (by omega) (by omega)) ?_)
     rintro e W' ⟨z109, rfl, k110, e111, hb⟩
     exact ⟨_, rfl, ⟨z109, rfl, k110, e111⟩, hb⟩
    ·refine V.s2 rfl fun f W h => ?_
     obtain ⟨z109, a104, k5_0, p5_0⟩ := V.dp h 5 104 (by kernel_rfl) rfl
     refine V.call en28 (V.args2 (V.ed h 0 99 rfl) (V.ev_tmp rfl a104)) (Calls.mono (Mul_s h.g.1.2.2.2.2.2.2.1 k5_0 (hz99.mono (by decide)) (by rw [p5_0]; exact ((quick_sz (by omega) (by omega) (by omega)).mono (by decide))) (by rw [p5_0]; exact ((hz99.mul (quick_sz (by omega) (by omega) (by omega))).mono (by decide)))) ?_)
     rintro e W' ⟨z112, rfl, k113, e114, hb⟩
     exact ⟨_, rfl, ⟨z112, rfl, k113, e114.trans (by rw [p5_0])⟩, hb⟩
    ·refine V.s2 rfl fun f W h => ?_
     obtain ⟨z112, a105, k6_0, p6_0⟩ := V.dp h 6 105 (by kernel_rfl) rfl
     exact V.v2 (.tuple #[z112.v, .int .i64 0]) (V.xm (V.ev_tmp rfl a105)) ⟨z112, rfl, k6_0, p6_0⟩
    ·refine V.s2 rfl fun f W h => ?_
     obtain ⟨z115, a98, k7_0, p7_0⟩ := V.dp h 7 98 (by kernel_rfl) rfl
     exact V.v2 (z115.v) (V.xe (V.ev_tmp rfl a98)) ⟨z115, rfl, k7_0, p7_0⟩
    ·refine V.s1 rfl fun f W h => ?_
     obtain ⟨z115, a98, k7_0, p7_0⟩ := V.dp h 7 98 (by kernel_rfl) rfl
     exact V.xe (V.ev_tmp rfl a98)
    ·exact V.sn rfl fun f W h => V.x_alloc
   ·refine V.fl1 (V.fl_step rfl rfl fun f W h => ?_)
    ·obtain ⟨z115, a98, k7_0, p7_0⟩ := V.dp h 7 98 (by kernel_rfl) rfl
     exact ⟨.int .i64 0, fun _ _ => V.xe (V.ev_tmp rfl a98), rfl⟩
   have o_g28 := r94.lt
   have o_g52 := r92.blk.lt
   have o_g69 := r96.lt
   have o_bel := r89.size
   have ob_r90 := r90.blt
   intro f118 W119 hE120
   clear r89 r90 r91 r92 r93 r94 r95 r96 r97
   obtain ⟨⟨r89, r90, r91, r92, r93, r94, r95, r96, r97⟩, hsz⟩ := hE120.g
   obtain ⟨s1, s2, s3, s13⟩ := V.e4 hE120 s1 s2 s3 s13
   obtain ⟨z116, s106, r121, n122⟩ := V.eq hE120 8 106 rfl
   have s107 := V.es hE120 9 107 rfl
   obtain ⟨g117, s15, b_g117, l_g117⟩ := V.eq hE120 10 15 rfl
   have m_g117 : w.heap.size ≤ g117 := Nat.le_trans o_bel l_g117
   have q_g28_g117 : g28 ≠ g117 := by omega
   have q_g52_g117 : g52 ≠ g117 := by omega
   have q_g69_g117 : g69 ≠ g117 := by omega
   have q_r90_g117 : 0 < l.length → (adr A).block ≠ g117 := fun h => Nat.ne_of_lt (Nat.lt_of_lt_of_le (ob_r90 h) l_g117)
   clear hE120 hsz
   clear o_bel o_g28 o_g52 o_g69 ob_r90
   refine V.t_st (k := 11) rfl (V.x_store (V.ev_tmp rfl s15) (V.ev_tmp rfl s106) (V.st_row b_g117)) b_g117 fun W123 hs b' => ?_
   replace r89 := hs.bel r89 m_g117
   replace r90 := hs.ls r90 q_r90_g117
   replace r91 := (fun x_0 hx_0 => hs.fr (r91 x_0 hx_0))
   replace r92 := hs.own r92 q_g52_g117
   replace r93 := (fun x_0 hx_0 => hs.fr (r93 x_0 hx_0))
   replace r94 := hs.blk r94 q_g28_g117
   replace r95 := hs.fr r95
   replace r96 := hs.blk r96 q_g69_g117
   replace r97 := hs.fr r97
   replace r121 := hs.fr r121
   replace b_g117 := b'
   clear hs b'
   refine V.t_val (k := 12) (v := .int .i64 0) (t := 16) rfl rfl rfl (by kernel_rfl) trivial (V.xs (V.ev_tmp rfl s107)) ?_
   intro f124 e125 u126
   replace s1 : f124 1 = .slice A l.length c := (u126 1 (by decide)).trans s1
   replace s2 : f124 2 = .int .u16 (n : Int) := (u126 2 (by decide)).trans s2
   replace s3 : f124 3 = .int .u16 (d : Int) := (u126 3 (by decide)).trans s3
   replace s13 : f124 13 = Vp g69 0 := (u126 13 (by decide)).trans s13
   replace s106 : f124 106 = z116.v := (u126 106 (by decide)).trans s106
   replace s107 : f124 107 = .int .i64 0 := (u126 107 (by decide)).trans s107
   replace s15 : f124 15 = Vp g117 0 := (u126 15 (by decide)).trans s15
   have s16 := e125
   clear u126
   refine V.t_done rfl (V.nx (V.seq ?_))
   refine V.reg 11 [V.E (.int .i64 0), V.E (.bool true), V.E (.bool true), (V.Gd true (V.E (z116.v))), (V.Gd true (V.E (.slice A l.length c))), (V.Gd true (fun v W => ∃ z127 : Fr, v = z127.v ∧ Fr.ok W z127 ∧ (z127.q = (S z116.q l)))), (V.Gd true (V.E (z66.v))), (V.Gd true (V.E (.int .i64 (Q.cmp (S z116.q l) ((((tot a l) : Int) : Rat) : Rat))))), (V.Gd true (V.E (.bool true))), V.E (.bool true), V.E (.bool true)] [] (V.i r89 (V.i r90 (V.i r91 (V.i r92 (V.i r93 (V.i r94 (V.i r95 (V.i r96 (V.i r97 (V.i r121 b_g117)))))))))) ?_ ?_
   ·refine V.ac ?_ (V.ac ?_ (V.ac ?_ (V.ac ?_ (V.ac ?_ (V.ac ?_ (V.ac ?_ (V.ac ?_ (V.ac ?_ (V.ac ?_ (V.ac ?_ V.an))))))))))
    ·exact V.z1 rfl fun h => V.xm (V.eo h 16 s16)
    ·exact V.z1 rfl fun h => V.xb (V.ed h 0 108 rfl) rfl
    ·exact V.z1 rfl fun h => V.xm (V.ed h 1 109 rfl)
    ·exact V.gt 2 110 rfl rfl fun hp f W h => V.v1 (V.xl (V.eo h 15 s15) (V.lr h.g.1.2.2.2.2.2.2.2.2.2.2 Tryz.underlying39))
    ·exact V.gt 2 110 rfl rfl fun hp f W h => V.v1 (V.xm (V.eo h 1 s1))
    ·refine V.gt 2 110 rfl rfl fun hp f W h => ?_
     refine V.call en24 (V.args2 (V.eg h 3 111 rfl hp) (V.eg h 4 112 rfl hp)) (Calls.mono (sumAt_s h.g.1.2.2.2.2.2.2.2.2.2.1 h.g.1.2.1 h.g.1.2.2.1 hV.g h10 (by rw [n122]; exact hz99.mul (quick_sz (by omega) (by omega) (by omega))) (by rw [n122]; exact hls.1)) ?_)
     rintro e W' ⟨z127, rfl, k128, e129, hb⟩
     exact ⟨_, rfl, ⟨z127, rfl, k128, e129⟩, hb⟩
    ·exact V.gt 2 110 rfl rfl fun hp f W h => V.v1 (V.xl (V.eo h 13 s13) (V.lr h.g.1.2.2.2.2.2.2.2.1 Tryz.underlying39))
    ·refine V.gt 2 110 rfl rfl fun hp f W h => ?_
     obtain ⟨z127, a113, k5_0, p5_0⟩ := V.gd_on (V.dp h 5 113 (by kernel_rfl) rfl) hp
     refine V.call en19 (V.args2 (V.ev_tmp rfl a113) (V.eg h 6 114 rfl hp)) (Calls.mono (Cmp_s k5_0 h.g.1.2.2.2.2.2.2.2.2.1 (by rw [p5_0]; exact ((S_sz (by rw [n122]; exact hls.1) (by rw [n122]; exact hz99.mul (quick_sz (by omega) (by omega) (by omega))) hgood h10).mono (by decide))) (by rw [n74]; exact ((Q.Sz.cap ta0 (by omega)).mono (by decide)))) ?_)
     rintro e W' ⟨e130, hb⟩
     rw [p5_0, n74] at e130
     subst e130
     exact ⟨_, rfl, rfl, hb⟩
    ·exact V.gt 2 110 rfl rfl fun hp f W h => V.v1 (V.xb (V.eg h 7 115 rfl hp) rfl ((by kernel_rfl : _ = Result.ok (.bool (decide ((Q.cmp (S z116.q l) ((((tot a l) : Int) : Rat) : Rat)) < 0))) _).trans (by rw [show (decide ((Q.cmp (S z116.q l) ((((tot a l) : Int) : Rat) : Rat)) < 0)) = true from cmp_lt0 (by rw [n122]; exact hlz.less hgood hls.1 hls.2)])))
    ·refine V.s1 rfl fun f W h => ?_
     have d116 := V.dp h 8 116 (by kernel_rfl) rfl
     exact V.x_pick_t (V.ed h 2 110 rfl) (V.ev_tmp rfl (V.gd_on d116 rfl))
    ·exact V.z1 rfl fun h => V.xs (V.ed h 9 117 rfl)
   intro f131 W132 hE133
   clear r89 r90 r91 r92 r93 r94 r95 r96 r97 r121 b_g117
   obtain ⟨⟨r89, r90, r91, r92, r93, r94, r95, r96, r97, r121, b_g117⟩, hsz⟩ := hE133.g
   obtain ⟨s1, s2, s3⟩ := V.e3 hE133 s1 s2 s3
   have s8 := V.es hE133 10 8 rfl
   clear hE133 hsz
   refine V.t_done rfl (V.nx (V.ret ?_))
   refine V.leave_any (.inl rfl) (V.res_tmp rfl rfl s8) ?_
   exact ⟨rfl, r89⟩
  ·have s97_ : f103 97 = .bool true := s97.trans (by rw [hc106])
   refine V.cond_t (V.ev_tmp rfl s97_) ?_
   have hnz := hc106
   refine V.seq ?_
   refine V.reg 1 [V.E (.bool true)] [] (V.i r89 (V.i r90 (V.i r91 (V.i r92 (V.i r93 (V.i r94 (V.i r95 (V.i r96 r97)))))))) ?_ ?_
   ·refine V.ac ?_ V.an
    ·exact V.z1 rfl fun h => V.xs rfl
   intro f134 W135 hE136
   clear r89 r90 r91 r92 r93 r94 r95 r96 r97
   obtain ⟨⟨r89, r90, r91, r92, r93, r94, r95, r96, r97⟩, hsz⟩ := hE136.g
   obtain ⟨s1, s2, s3, s9, s13⟩ := V.e5 hE136 s1 s2 s3 s9 s13
   have s8 := V.es hE136 0 8 rfl
   clear hE136 hsz
   refine V.t_done rfl (V.nx (V.ret (V.tr ?_)))
   refine V.leave_any (.inl rfl) (V.res_tmp rfl rfl s8) ?_
   exact ⟨rfl, r89⟩
 ·have s73_ : f99 73 = .bool true := s73.trans (by rw [hc102])
  refine V.cond_t (V.ev_tmp rfl s73_) ?_
  have hi : i < l.length := by have := of_decide_eq_true hc102; omega
  obtain ⟨x, mx, ex, ex_⟩ := V.at_map Cl.cells (l := l) (i := i) hi
  have gx := hgood x mx
  obtain ⟨y, my, ey, ey_⟩ := V.at_map Fr.cells (l := xs53) (i := i) (by rw [n61.len]; exact hi)
  have fy := r93 y my
  have fx := r91 x mx
  have hyq := (n61.q i x y ex ey).trans (by rw [hte])
  refine V.skip ?_
  refine V.nx (V.seq (V.block (V.seq ?_)))
  refine V.reg 12 [V.E (.slice (some ⟨g52, 0, none⟩) l.length l.length), V.E (.int .i64 (i : Int)), V.E (.pointer (some ((adr (some ⟨g52, 0, none⟩)).add (i * 4 + 0)))), V.E (y.v), V.E (z27.v), V.E (.slice A l.length c), V.E (.int .i64 (i : Int)), V.E (.pointer (some ((adr A).add (i * 6 + 0)))), V.E (x.v), (fun v W => ∃ z137 : Fr, v = z137.v ∧ Fr.ok W z137 ∧ (z137.q = (min ((x.cap : Int) : Rat) (z27.q * x.w.q)))), V.E (.bool true), V.E (.bool false)] [] (V.i r89 (V.i r90 (V.i r91 (V.i r92 (V.i r93 (V.i r94 (V.i r95 (V.i r96 (V.i r97 (V.i fy fx)))))))))) ?_ ?_
  ·refine V.ac ?_ (V.ac ?_ (V.ac ?_ (V.ac ?_ (V.ac ?_ (V.ac ?_ (V.ac ?_ (V.ac ?_ (V.ac ?_ (V.ac ?_ (V.ac ?_ (V.ac ?_ V.an)))))))))))
   ·exact V.z1 rfl fun h => V.xm (V.eo h 11 s11)
   ·exact V.z1 rfl fun h => V.xm (V.eo h 14 s14)
   ·exact V.z1 rfl fun h => V.xi (i := i) (Own.lsn (n := l.length) (c := l.length) h.g.1.2.2.2.1 ⟨by rw [List.length_map, n61.len], Nat.le_refl _, by omega⟩) ey_ (V.ed h 0 76 rfl) (V.ed h 1 77 rfl)
   ·exact V.z1 rfl fun h => V.xl (V.ed h 2 78 rfl) (V.ld_lsE (i := i) (o := 0) (cs := [.bool (Q.neg y.q), Vs y.A (Q.m y.q) y.c, .bool false, Vs y.A' y.q.den y.c']) (Own.lsn (n := l.length) (c := l.length) h.g.1.2.2.2.1 ⟨by rw [List.length_map, n61.len], Nat.le_refl _, by omega⟩) ey_ Tryz.underlying39)
   ·exact V.z1 rfl fun h => V.xl (V.eo h 9 s9) (V.lr h.g.1.2.2.2.2.2.1 Tryz.underlying39)
   ·exact V.z1 rfl fun h => V.xm (V.eo h 1 s1)
   ·exact V.z1 rfl fun h => V.xm (V.eo h 14 s14)
   ·exact V.z1 rfl fun h => V.xi (i := i) h.g.1.2.1 ex_ (V.ed h 5 81 rfl) (V.ed h 6 82 rfl)
   ·exact V.z1 rfl fun h => V.xl (V.ed h 7 83 rfl) (V.ld_lsE (i := i) (o := 0) (cs := [.int .i64 x.id, .bool (Q.neg x.w.q), Vs x.w.A (Q.m x.w.q) x.w.c, .bool false, Vs x.w.A' x.w.q.den x.w.c', .int .i64 x.cap]) h.g.1.2.1 ex_ Tryz.underlying50)
   ·refine V.s2 rfl fun f W h => ?_
    refine V.call en27 (V.args2 (V.ed h 4 80 rfl) (V.ed h 8 84 rfl)) (Calls.mono (within_s (x := x) h.g.1.2.2.2.2.2.2.1 h.g.1.2.2.2.2.2.2.2.2.2.2 gx (hz99.mono (by decide))) ?_)
    rintro e W' ⟨z137, rfl, k138, e139, hb⟩
    exact ⟨_, rfl, ⟨z137, rfl, k138, e139⟩, hb⟩
   ·refine V.s2 rfl fun f W h => ?_
    obtain ⟨z137, a85, k9_0, p9_0⟩ := V.dp h 9 85 (by kernel_rfl) rfl
    refine V.call en26 (V.args2 (V.ed h 3 79 rfl) (V.ev_tmp rfl a85)) (Calls.mono (Same_s h.g.1.2.2.2.2.2.2.2.2.2.1 k9_0) ?_)
    rintro e W' ⟨e140, hb⟩
    rw [decide_eq_true (hyq.trans p9_0.symm)] at e140
    subst e140
    exact ⟨_, rfl, rfl, hb⟩
   ·exact V.z1 rfl fun h => V.x_un (V.ed h 10 86 rfl)
  intro f141 W142 hE143
  clear r89 r90 r91 r92 r93 r94 r95 r96 r97 fy fx
  obtain ⟨⟨r89, r90, r91, r92, r93, r94, r95, r96, r97, fy, fx⟩, hsz⟩ := hE143.g
  obtain ⟨s1, s2, s3, s9, s11, s13, s14⟩ := V.e7 hE143 s1 s2 s3 s9 s11 s13 s14
  have s87 := V.es hE143 11 87 rfl
  clear hE143 hsz
  refine V.t_done rfl (V.nx ?_)
  refine V.cond_f (V.ev_tmp rfl s87) ?_
  refine V.skip ?_
  refine V.bn (V.nx ?_)
  refine V.reg 3 [V.E (.int .i64 (i : Int)), V.E (.int .i64 ((i : Int) + 1)), V.E (.int .i64 ((i : Int) + 1))] [] (V.i r89 (V.i r90 (V.i r91 (V.i r92 (V.i r93 (V.i r94 (V.i r95 (V.i r96 (V.i r97 (V.i fy fx)))))))))) ?_ ?_
  ·refine V.ac ?_ (V.ac ?_ (V.ac ?_ V.an))
   ·exact V.z1 rfl fun h => V.xm (V.eo h 14 s14)
   ·refine V.s1 rfl fun f W h => ?_
    have hw144 : IntKind.i64.wrap ((i : Int) + 1) = (i : Int) + 1 := by exact IntWalk.i64_in _ (by omega)
    exact V.xb (V.ed h 0 74 rfl) rfl ((by kernel_rfl : _ = Result.ok (.int .i64 (IntKind.i64.wrap ((i : Int) + 1))) _).trans (by rw [hw144]))
   ·exact V.z1 rfl fun h => V.xs (V.ed h 1 75 rfl)
  intro f145 W146 hE147
  clear r89 r90 r91 r92 r93 r94 r95 r96 r97 fy fx
  obtain ⟨⟨r89, r90, r91, r92, r93, r94, r95, r96, r97, fy, fx⟩, hsz⟩ := hE147.g
  obtain ⟨s1, s2, s3, s9, s11, s13⟩ := V.e6 hE147 s1 s2 s3 s9 s11 s13
  have s14 := V.es hE147 2 14 rfl
  clear hE147 hsz
  refine V.t_done rfl ?_
  refine V.handed (l.length - (i + 1)) (by have := hk98; omega) ⟨(i + 1), ⟨rfl, by omega⟩, ⟨s1, s2, s3, s9, s11, s13, (s14.trans (by simp))⟩, ⟨r89, r90, r91, r92, r93, r94, r95, r96, r97⟩⟩
end Go.Proofs.YtjbcalbbhomkjaaGreat
namespace Go.Proofs.YtjbcalbbhomkjaaGreat
open Go.ChangeShapes Go.WideShapes Go.ChangeAt Go.RowKit Go.Deep
theorem u16_nat {n : Int} (h : IntKind.u16.min ≤ n ∧ n ≤ IntKind.u16.max) : ∃ k : Nat, n = (k : Int) ∧ k < 65536 := by
 have h0 : (0 : Int) ≤ n := h.1
 have h1 : n ≤ 65535 := h.2
 exact ⟨n.toNat, by omega, by omega⟩
theorem level_law {a n d : Int} {A : Option Addr} {c : Nat} {l : List Rc} {w : World} (hl : Ls w 6 A l.length c (l.map Rc.cells)) (hfr : ∀ x ∈ l, Rc.ok w x) (hn : IntKind.u16.min ≤ n ∧ n ≤ IntKind.u16.max) (hd : IntKind.u16.min ≤ d ∧ d ≤ IntKind.u16.max) :
  Calls Tryz.prog 6 #[.int .i64 a, .slice A l.length c, .int .u16 n, .int .u16 d] w fun e w' => e = .returned (.bool true) ∧ Below w.heap.size w w' := by
 obtain ⟨n, rfl, hn2⟩ := u16_nat hn
 obtain ⟨d, rfl, hd2⟩ := u16_nat hd
 cases h : usableB a l with
 | false => exact level_no hl hfr h
 | true =>
  obtain ⟨k, rfl, hV, h10, h0, h1⟩ := usable_typed hfr h
  rw [List.length_map] at hl ⊢
  exact level_yes (typed_ls hl) (typed_ok hfr) hV h10 h0 h1 hn2 hd2
set_option maxRecDepth 100000 in
theorem level_lifted (os : Os) (started : os.Started) (H : Type) (enc : TypeId × Value → H) :
  ReturnsInHanded {} Tryz.checked os 6 .any (Rows.survivorLevelSpec.pre6 enc Tryz.prog Tryz.f6 Rows.survivorLevelRow.domain false) (Rows.survivorLevelSpec.post enc Tryz.prog Tryz.f6 false true false false) := by
 refine returnsInHanded_of_change (C := Tryz.checked) Tryz.own started (by kernel_rfl) Tryz.func6
  (ChangeSpec.witness6 (enc := enc) (C := Tryz.checked) false ⟨#[], #[.int .i64 0, .slice none 0 0, .int .u16 0, .int .u16 0], []⟩ 8 (by kernel_rfl) (by kernel_rfl) (by kernel_rfl) (by kernel_rfl)) ?_
 intro W base args ds gs before hval0 hW hcnd _
 have hval : ∀ (j : Nat) t v, Tryz.f6.params[j]? = some t → args[j]? = some v → Value.okWide Tryz.prog W .any base t v := hval0
 have hW' := hW
 obtain ⟨p, q, hA0, hV, rfl, hfz, hnd⟩ := hW
 have hA : DataW.TrodAll enc Tryz.prog W 0 (fun _ => true) true Tryz.f6.params.toList args.toList ds p := hA0
 rw [Tryz.params6] at hA hval
 obtain ⟨v0, v1, v2, v3, d0, d1, d2, d3, p0, p1, p2, p3, rfl, rfl, rfl, h0, h1, h2, h3⟩ := trodAll_four hA
 obtain ⟨rfl, rfl⟩ := trodVars_none hV
 obtain ⟨a, rfl, rfl, rfl, wa⟩ := open_int Tryz.underlying3 (hval 0 3 v0 rfl rfl) h0
 obtain ⟨A', n', c', rfl⟩ := okWide_slice Tryz.underlying22 (hval 1 22 v1 rfl rfl)
 have h1k := h1
 obtain ⟨fuel, hf⟩ := h1
 obtain ⟨A, c, l, hcs, hl, hfr⟩ := open_claims hf
 obtain ⟨rfl, rfl, rfl⟩ : A' = A ∧ n' = l.length ∧ c' = c := by simpa [Value.cells] using hcs
 obtain ⟨n, rfl, rfl, rfl, wn⟩ := open_int Tryz.underlying51 (hval 2 51 v2 rfl rfl) h2
 obtain ⟨d, rfl, rfl, rfl, wd⟩ := open_int Tryz.underlying51 (hval 3 51 v3 rfl rfl) h3
 have hlt : ∀ x ∈ p1, x.block < W.heap.size := fun x hx => hW'.lt x (by simpa using hx)
 have bn := wn
 simp only [Lit.wf, Bool.and_eq_true, decide_eq_true_eq] at bn
 have bd := wd
 simp only [Lit.wf, Bool.and_eq_true, decide_eq_true_eq] at bd
 refine (level_law (a := a) (n := n) (d := d) hl hfr bn bd).mono fun e W' ⟨he, hB⟩ => ?_
 subst he
 exact ⟨_, rfl, _, _, _, [], _, [], hW', trodAll_mk1 (shut_bool Tryz.underlying4 true), trodAll_mk4 (shut_int Tryz.underlying3 wa) (Below.trod Tryz.laidOut (by kernel_rfl) (of_decide_eq_true (by kernel_rfl)) h1k hB hlt) (shut_int Tryz.underlying51 wn) (shut_int Tryz.underlying51 wd), rfl, hB.frame _, fun h => by cases h⟩
theorem level_holds : Rows.SurvivorLevelSaid :=
 OpenClaim.holds_of_wide 6 Tryz.f6 rfl rfl rfl rfl rfl rfl rfl ⟨rfl, rfl, rfl, rfl, rfl⟩ rfl rfl rfl rfl rfl (by kernel_rfl) Tryz.func6 (by kernel_rfl)
  (of_decide_eq_true (by kernel_rfl)) (by unfold Func.isWrapper; first | (rw [if_pos (by decide +kernel)]; kernel_rfl) | (rw [if_neg (by decide +kernel)]; exact ⟨rfl, rfl⟩))
  (fun os started H enc _ => level_lifted os started H enc)
#print axioms level_holds
end Go.Proofs.YtjbcalbbhomkjaaGreat
