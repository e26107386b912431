/- PROVED: SurvivorScale answers true for every amount, every list of claims and all numbers, and leaves its arguments as they were. No condition. -/
import Derived.Test.YtjbcalbbhomkjaaGreatDZ4
set_option maxRecDepth 20000
set_option maxHeartbeats 2000000
namespace Go.Proofs.YtjbcalbbhomkjaaGreat
open Go.RowKit
attribute [local irreducible] RI.frame RI.act RI.Ob RI.Tail RI.out V.Wp V.Fn Oper.wp
theorem en63 : En 63 := enters_of Tryz.func63 (by kernel_rfl) rfl
theorem en103 : En 103 := enters_of Tryz.func103 (by kernel_rfl) rfl
theorem Eq16 {A B : Option Addr} {c d : Nat} {xs ys : List Nat} {w : World} (hl : Ls w 1 A xs.length c (xs.map U16)) (hm : Ls w 1 B ys.length d (ys.map U16)) :
    Calls Tryz.prog 103 #[.slice A xs.length c, .slice B ys.length d] w fun e w' => e = .returned (.bool (decide (xs = ys))) ∧ Below w.heap.size w w' := by
 have hmx : xs.length ≤ 9223372036854775807 := Nat.le_trans hl.cap hl.max
 refine V.enter Tryz.func103 rfl rfl (by simp) fun f0 hf => ?_
 have s0 : f0 0 = .slice A xs.length c := hf 0 (by simp)
 have s1 : f0 1 = .slice B ys.length d := hf 1 (by simp)
 clear hf
 have hb : Below w.heap.size w w := Below.refl _ _
 refine V.seq ?_
 refine V.reg 1 [V.E (.bool false)] [] (V.i hl (V.i hm hb)) ?_ ?_
 ·refine V.ac ?_ V.an
  ·exact V.z1 rfl fun h => V.xs rfl
 intro f1 W2 hE3
 clear hl hm hb
 obtain ⟨⟨hl, hm, hb⟩, hsz⟩ := hE3.g
 obtain ⟨s0, s1⟩ := V.e2 hE3 s0 s1
 have s4 := V.es hE3 0 4 rfl
 clear hE3 hsz
 refine V.t_done rfl (V.nx (V.seq (V.seq ?_)))
 refine V.reg 5 [V.E (.slice A xs.length c), V.E (.int .i64 (xs.length : Int)), V.E (.slice B ys.length d), V.E (.int .i64 (ys.length : Int)), V.E (.bool ((xs.length : Int) != (ys.length : Int)))] [] (V.i hl (V.i hm hb)) ?_ ?_
 ·refine V.ac ?_ (V.ac ?_ (V.ac ?_ (V.ac ?_ (V.ac ?_ V.an))))
  ·exact V.z1 rfl fun h => V.xm (V.eo h 0 s0)
  ·exact V.z1 rfl fun h => V.x_len (V.ed h 0 6 rfl)
  ·exact V.z1 rfl fun h => V.xm (V.eo h 1 s1)
  ·exact V.z1 rfl fun h => V.x_len (V.ed h 2 8 rfl)
  ·exact V.z1 rfl fun h => V.xb (V.ed h 1 7 rfl) (V.ed h 3 9 rfl)
 intro f4 W5 hE6
 clear hl hm hb
 obtain ⟨⟨hl, hm, hb⟩, hsz⟩ := hE6.g
 obtain ⟨s0, s1, s4⟩ := V.e3 hE6 s0 s1 s4
 have s10 := V.es hE6 4 10 rfl
 clear hE6 hsz
 refine V.t_done rfl (V.nx ?_)
 cases hc7 : ((xs.length : Int) != (ys.length : Int))
 ·have s10_ : f4 10 = .bool false := s10.trans (by rw [hc7])
  refine V.cond_f (V.ev_tmp rfl s10_) ?_
  have hne := hc7
  have hle : xs.length = ys.length := by simp at hne; omega
  refine V.skip ?_
  refine V.nx (V.seq (V.seq ?_))
  refine V.reg 3 [V.E (.slice A xs.length c), V.E (.int .i64 (xs.length : Int)), V.E (.int .i64 0)] [] (V.i hl (V.i hm hb)) ?_ ?_
  ·refine V.ac ?_ (V.ac ?_ (V.ac ?_ V.an))
   ·exact V.z1 rfl fun h => V.xm (V.eo h 0 s0)
   ·exact V.z1 rfl fun h => V.x_len (V.ed h 0 11 rfl)
   ·exact V.z1 rfl fun h => V.xm rfl
  intro f8 W9 hE10
  clear hl hm hb
  obtain ⟨⟨hl, hm, hb⟩, hsz⟩ := hE10.g
  obtain ⟨s0, s1, s4⟩ := V.e3 hE10 s0 s1 s4
  have s12 := V.es hE10 1 12 rfl
  have s13 := V.es hE10 2 13 rfl
  clear hE10 hsz
  refine V.t_done rfl (V.nx (V.block ?_))
  refine V.loop (fun k f W => ∃ i : Nat, (k = xs.length - i ∧ (i ≤ xs.length) ∧ (xs.take i = ys.take i)) ∧ (f 0 = .slice A xs.length c ∧ f 1 = .slice B ys.length d ∧ f 12 = .int .i64 (xs.length : Int) ∧ f 13 = .int .i64 (i : Int)) ∧ (Below w.heap.size w W ∧ Ls W 1 A xs.length c (xs.map U16) ∧ Ls W 1 B ys.length d (ys.map U16))) (xs.length - 0) ⟨0, ⟨rfl, by omega, by simp⟩, ⟨s0, s1, s12, (s13.trans (by simp))⟩, ⟨hb, hl, hm⟩⟩ ?_
  clear hl hm hb s0 s1 s4 s12 s13
  rintro k13 f11 W12 ⟨i, ⟨hk17, hil, hq⟩, ⟨s0, s1, s12, s13⟩, ⟨r14, r15, r16⟩⟩
  refine V.seq ?_
  refine V.reg 1 [V.E (.bool (decide ((i : Int) < (xs.length : Int))))] [] (V.i r14 (V.i r15 r16)) ?_ ?_
  ·refine V.ac ?_ V.an
   ·exact V.z1 rfl fun h => V.xb (V.eo h 13 s13) (V.eo h 12 s12)
  intro f18 W19 hE20
  clear r14 r15 r16
  obtain ⟨⟨r14, r15, r16⟩, hsz⟩ := hE20.g
  obtain ⟨s0, s1, s12, s13⟩ := V.e4 hE20 s0 s1 s12 s13
  have s14 := V.es hE20 0 14 rfl
  clear hE20 hsz
  refine V.t_done rfl (V.nx (V.seq ?_))
  cases hc21 : (decide ((i : Int) < (xs.length : Int)))
  ·have s14_ : f18 14 = .bool false := s14.trans (by rw [hc21])
   refine V.cond_f (V.ev_tmp rfl s14_) ?_
   have hi : i = xs.length := by have := of_decide_eq_false hc21; omega
   refine V.exit (V.tx (V.tx (V.bx (V.nx (V.seq ?_)))))
   refine V.reg 1 [V.E (.bool true)] [] (V.i r14 (V.i r15 r16)) ?_ ?_
   ·refine V.ac ?_ V.an
    ·exact V.z1 rfl fun h => V.xs rfl
   intro f22 W23 hE24
   clear r14 r15 r16
   obtain ⟨⟨r14, r15, r16⟩, hsz⟩ := hE24.g
   obtain ⟨s0, s1⟩ := V.e2 hE24 s0 s1
   have s4 := V.es hE24 0 4 rfl
   clear hE24 hsz
   refine V.t_done rfl (V.nx (V.ret ?_))
   refine V.leave_any (.inl rfl) (V.res_tmp rfl rfl s4) ?_
   exact ⟨by rw [show decide (xs = ys) = true from by rw [decide_eq_true]; rw [hi, List.take_length, hle, List.take_length] at hq; exact hq], r14⟩
  ·have s14_ : f18 14 = .bool true := s14.trans (by rw [hc21])
   refine V.cond_t (V.ev_tmp rfl s14_) ?_
   have hi : i < xs.length := by have := of_decide_eq_true hc21; omega
   obtain ⟨p, mp, ex, ex_⟩ := V.at_map U16 (l := xs) (i := i) hi
   obtain ⟨q, mq, ey, ey_⟩ := V.at_map U16 (l := ys) (i := i) (by omega)
   refine V.skip ?_
   refine V.nx (V.seq (V.block (V.seq ?_)))
   refine V.reg 2 [V.E (.int .i64 (i : Int)), V.E (.int .i64 (i : Int))] [] (V.i r14 (V.i r15 r16)) ?_ ?_
   ·refine V.ac ?_ (V.ac ?_ V.an)
    ·exact V.z1 rfl fun h => V.xm (V.eo h 13 s13)
    ·exact V.z1 rfl fun h => V.xs (V.ed h 0 15 rfl)
   intro f25 W26 hE27
   clear r14 r15 r16
   obtain ⟨⟨r14, r15, r16⟩, hsz⟩ := hE27.g
   obtain ⟨s0, s1, s12, s13⟩ := V.e4 hE27 s0 s1 s12 s13
   have s5 := V.es hE27 1 5 rfl
   clear hE27 hsz
   refine V.t_done rfl (V.nx (V.seq ?_))
   refine V.reg 9 [V.E (.slice A xs.length c), V.E (.int .i64 (i : Int)), V.E (.pointer (some ((adr A).add (i * 1 + 0)))), V.E (.int .u16 (p : Int)), V.E (.slice B ys.length d), V.E (.int .i64 (i : Int)), V.E (.pointer (some ((adr B).add (i * 1 + 0)))), V.E (.int .u16 (q : Int)), V.E (.bool ((p : Int) != (q : Int)))] [] (V.i r14 (V.i r15 r16)) ?_ ?_
   ·refine V.ac ?_ (V.ac ?_ (V.ac ?_ (V.ac ?_ (V.ac ?_ (V.ac ?_ (V.ac ?_ (V.ac ?_ (V.ac ?_ V.an))))))))
    ·exact V.z1 rfl fun h => V.xm (V.eo h 0 s0)
    ·exact V.z1 rfl fun h => V.xm (V.eo h 5 s5)
    ·exact V.z1 rfl fun h => V.xi (i := i) h.g.1.2.1 ex_ (V.ed h 0 16 rfl) (V.ed h 1 17 rfl)
    ·exact V.z1 rfl fun h => V.xl (V.ed h 2 18 rfl) (V.ld_ls1 (i := i) (o := 0) h.g.1.2.1 ex_ rfl)
    ·exact V.z1 rfl fun h => V.xm (V.eo h 1 s1)
    ·exact V.z1 rfl fun h => V.xm (V.eo h 5 s5)
    ·exact V.z1 rfl fun h => V.xi (i := i) h.g.1.2.2 ey_ (V.ed h 4 20 rfl) (V.ed h 5 21 rfl)
    ·exact V.z1 rfl fun h => V.xl (V.ed h 6 22 rfl) (V.ld_ls1 (i := i) (o := 0) h.g.1.2.2 ey_ rfl)
    ·exact V.z1 rfl fun h => V.xb (V.ed h 3 19 rfl) (V.ed h 7 23 rfl)
   intro f28 W29 hE30
   clear r14 r15 r16
   obtain ⟨⟨r14, r15, r16⟩, hsz⟩ := hE30.g
   obtain ⟨s0, s1, s12, s13⟩ := V.e4 hE30 s0 s1 s12 s13
   have s24 := V.es hE30 8 24 rfl
   clear hE30 hsz
   refine V.t_done rfl (V.nx ?_)
   cases hc31 : ((p : Int) != (q : Int))
   ·have s24_ : f28 24 = .bool false := s24.trans (by rw [hc31])
    refine V.cond_f (V.ev_tmp rfl s24_) ?_
    have hxy := hc31
    refine V.skip ?_
    refine V.bn (V.nx ?_)
    refine V.reg 2 [V.E (.int .i64 ((i : Int) + 1)), V.E (.int .i64 ((i : Int) + 1))] [] (V.i r14 (V.i r15 r16)) ?_ ?_
    ·refine V.ac ?_ (V.ac ?_ V.an)
     ·refine V.s1 rfl fun f W h => ?_
      have hw32 : IntKind.i64.wrap ((i : Int) + 1) = (i : Int) + 1 := by exact IntWalk.i64_in _ (by omega)
      exact V.xb (V.eo h 13 s13) rfl ((by kernel_rfl : _ = Result.ok (.int .i64 (IntKind.i64.wrap ((i : Int) + 1))) _).trans (by rw [hw32]))
     ·exact V.z1 rfl fun h => V.xm (V.ed h 0 25 rfl)
    intro f33 W34 hE35
    clear r14 r15 r16
    obtain ⟨⟨r14, r15, r16⟩, hsz⟩ := hE35.g
    obtain ⟨s0, s1, s12⟩ := V.e3 hE35 s0 s1 s12
    have s13 := V.es hE35 1 13 rfl
    clear hE35 hsz
    refine V.t_done rfl ?_
    refine V.handed (xs.length - (i + 1)) (by have := hk17; omega) ⟨(i + 1), ⟨rfl, by omega, by rw [List.take_add_one, List.take_add_one, hq, ex, ey, show p = q by simp at hxy; omega]⟩, ⟨s0, s1, s12, (s13.trans (by simp))⟩, ⟨r14, r15, r16⟩⟩
   ·have s24_ : f28 24 = .bool true := s24.trans (by rw [hc31])
    refine V.cond_t (V.ev_tmp rfl s24_) ?_
    have hxy := hc31
    refine V.seq ?_
    refine V.reg 1 [V.E (.bool false)] [] (V.i r14 (V.i r15 r16)) ?_ ?_
    ·refine V.ac ?_ V.an
     ·exact V.z1 rfl fun h => V.xs rfl
    intro f36 W37 hE38
    clear r14 r15 r16
    obtain ⟨⟨r14, r15, r16⟩, hsz⟩ := hE38.g
    obtain ⟨s0, s1, s12, s13⟩ := V.e4 hE38 s0 s1 s12 s13
    have s4 := V.es hE38 0 4 rfl
    clear hE38 hsz
    refine V.t_done rfl (V.nx (V.ret (V.br (V.tr (V.tr (V.br (V.tr ?_)))))))
    refine V.leave_any (.inl rfl) (V.res_tmp rfl rfl s4) ?_
    exact ⟨by rw [show decide (xs = ys) = false from by rw [decide_eq_false]; intro e; rw [e, ey] at ex; cases ex; simp at hxy], r14⟩
 ·have s10_ : f4 10 = .bool true := s10.trans (by rw [hc7])
  refine V.cond_t (V.ev_tmp rfl s10_) ?_
  have hne := hc7
  refine V.seq ?_
  refine V.reg 1 [V.E (.bool false)] [] (V.i hl (V.i hm hb)) ?_ ?_
  ·refine V.ac ?_ V.an
   ·exact V.z1 rfl fun h => V.xs rfl
  intro f39 W40 hE41
  clear hl hm hb
  obtain ⟨⟨hl, hm, hb⟩, hsz⟩ := hE41.g
  obtain ⟨s0, s1⟩ := V.e2 hE41 s0 s1
  have s4 := V.es hE41 0 4 rfl
  clear hE41 hsz
  refine V.t_done rfl (V.nx (V.ret (V.tr ?_)))
  refine V.leave_any (.inl rfl) (V.res_tmp rfl rfl s4) ?_
  exact ⟨by rw [show decide (xs = ys) = false from by rw [decide_eq_false]; intro e; rw [e] at hne; simp at hne], hb⟩
theorem WSame {A B : Option Addr} {c d : Nat} {n0 n1 : Bool} {xs ys : List Nat} {w : World} (hl : Ls w 1 A xs.length c (xs.map U16)) (hm : Ls w 1 B ys.length d (ys.map U16)) :
    Calls Tryz.prog 63 #[.agg #[.bool n0, .slice A xs.length c], .agg #[.bool n1, .slice B ys.length d]] w fun e w' => e = .returned (.bool (decide (n0 = n1 ∧ xs = ys))) ∧ Below w.heap.size w w' := by
 refine V.enter Tryz.func63 rfl rfl (by simp) fun f0 hf => ?_
 have s0 : f0 0 = .agg #[.bool n0, .slice A xs.length c] := hf 0 (by simp)
 have s1 : f0 1 = .agg #[.bool n1, .slice B ys.length d] := hf 1 (by simp)
 clear hf
 have hb : Below w.heap.size w w := Below.refl _ _
 refine V.seq ?_
 refine V.reg 3 [V.Nb w 35 #[.bool n0, .slice A xs.length c], V.Nb w 35 #[.bool n1, .slice B ys.length d], V.E (.bool false)] [0, 1] (V.i hl (V.i hm hb)) ?_ ?_
 ·refine V.ac ?_ (V.ac ?_ (V.ac ?_ V.an))
  ·exact V.sn rfl fun f W h => V.x_box (V.eo h 0 s0)
  ·exact V.sn rfl fun f W h => V.x_box (V.eo h 1 s1)
  ·exact V.z1 rfl fun h => V.xs rfl
 have o_bel := hb.size
 have ob_hl := hl.blt
 have ob_hm := hm.blt
 intro f44 W45 hE46
 clear hl hm hb
 obtain ⟨⟨hl, hm, hb⟩, hsz⟩ := hE46.g
 obtain ⟨s0, s1⟩ := V.e2 hE46 s0 s1
 obtain ⟨g42, s2, b_g42, l_g42⟩ := V.eq hE46 0 2 rfl
 obtain ⟨g43, s3, b_g43, l_g43⟩ := V.eq hE46 1 3 rfl
 have s4 := V.es hE46 2 4 rfl
 clear hE46 hsz
 clear o_bel ob_hl ob_hm
 refine V.t_done rfl (V.nx (V.seq ?_))
 refine V.reg 13 [V.E (Vp g42 0), V.E (.bool n0), V.E (Vp g43 0), V.E (.bool n1), V.E (.bool (n0 == n1)), V.E (.bool (n0 == n1)), (V.Gd (n0 == n1) (V.E (Vp g42 1))), (V.Gd (n0 == n1) (V.E (.slice A xs.length c))), (V.Gd (n0 == n1) (V.E (Vp g43 1))), (V.Gd (n0 == n1) (V.E (.slice B ys.length d))), (V.Gd (n0 == n1) (V.E (.bool (decide (xs = ys))))), V.E (.bool ((n0 == n1) && (decide (xs = ys)))), V.E (.bool ((n0 == n1) && (decide (xs = ys))))] [] (V.i hl (V.i hm (V.i hb (V.i b_g42 b_g43)))) ?_ ?_
 ·refine V.ac ?_ (V.ac ?_ (V.ac ?_ (V.ac ?_ (V.ac ?_ (V.ac ?_ (V.ac ?_ (V.ac ?_ (V.ac ?_ (V.ac ?_ (V.ac ?_ (V.ac ?_ (V.ac ?_ V.an))))))))))))
  ·exact V.z1 rfl fun h => V.xa (V.eo h 2 s2)
  ·exact V.z1 rfl fun h => V.xl (V.ed h 0 5 rfl) (V.lo h.g.1.2.2.2.1 rfl)
  ·exact V.z1 rfl fun h => V.xa (V.eo h 3 s3)
  ·exact V.z1 rfl fun h => V.xl (V.ed h 2 7 rfl) (V.lo h.g.1.2.2.2.2 rfl)
  ·exact V.z1 rfl fun h => V.xb (V.ed h 1 6 rfl) (V.ed h 3 8 rfl)
  ·exact V.z1 rfl fun h => V.xm (V.ed h 4 9 rfl)
  ·exact V.gt 5 10 rfl rfl fun hp f W h => V.v1 (V.xa (V.eo h 2 s2))
  ·exact V.gt 5 10 rfl rfl fun hp f W h => V.v1 (V.xl (V.eg h 6 11 rfl hp) (V.lo h.g.1.2.2.2.1 rfl))
  ·exact V.gt 5 10 rfl rfl fun hp f W h => V.v1 (V.xa (V.eo h 3 s3))
  ·exact V.gt 5 10 rfl rfl fun hp f W h => V.v1 (V.xl (V.eg h 8 13 rfl hp) (V.lo h.g.1.2.2.2.2 rfl))
  ·refine V.gt 5 10 rfl rfl fun hp f W h => ?_
   refine V.call en103 (V.args2 (V.eg h 7 12 rfl hp) (V.eg h 9 14 rfl hp)) (Calls.mono (Eq16 h.g.1.1 h.g.1.2.1) ?_)
   rintro e W' ⟨rfl, hb⟩
   exact ⟨_, rfl, rfl, hb⟩
  ·refine V.s1 rfl fun f W h => ?_
   have d15 := V.dp h 10 15 (by kernel_rfl) rfl
   exact V.x_and (V.ed h 5 10 rfl) (fun e => V.ev_tmp rfl (V.gd_on d15 e)) rfl
  ·exact V.z1 rfl fun h => V.xs (V.ed h 11 16 rfl)
 intro f47 W48 hE49
 clear hl hm hb b_g42 b_g43
 obtain ⟨⟨hl, hm, hb, b_g42, b_g43⟩, hsz⟩ := hE49.g
 obtain ⟨s0, s1⟩ := V.e2 hE49 s0 s1
 have s4 := V.es hE49 12 4 rfl
 clear hE49 hsz
 refine V.t_done rfl (V.nx (V.ret ?_))
 refine V.leave_any (.inl rfl) (V.res_tmp rfl rfl s4) ?_
 exact ⟨by cases n0 <;> cases n1 <;> simp, hb⟩
theorem Same_s {x y : Fr} {w : World} (hx : Fr.ok w x) (hy : Fr.ok w y) :
    Calls Tryz.prog 26 #[x.v, y.v] w fun e w' => e = .returned (.bool (decide (x.q = y.q))) ∧ Below w.heap.size w w' := by
 refine V.enter Tryz.func26 rfl rfl (by simp) fun f0 hf => ?_
 have s0 : f0 0 = x.v := hf 0 (by simp)
 have s1 : f0 1 = y.v := hf 1 (by simp)
 clear hf
 have hb : Below w.heap.size w w := Below.refl _ _
 refine V.seq ?_
 refine V.reg 3 [V.Nb w 39 x.cs, V.Nb w 39 y.cs, V.E (.bool false)] [0, 1] (V.i hx (V.i hy hb)) ?_ ?_
 ·refine V.ac ?_ (V.ac ?_ (V.ac ?_ V.an))
  ·exact V.sn rfl fun f W h => V.x_box (V.eo h 0 s0)
  ·exact V.sn rfl fun f W h => V.x_box (V.eo h 1 s1)
  ·exact V.z1 rfl fun h => V.xs rfl
 have o_bel := hb.size
 intro f52 W53 hE54
 clear hx hy hb
 obtain ⟨⟨hx, hy, hb⟩, hsz⟩ := hE54.g
 obtain ⟨s0, s1⟩ := V.e2 hE54 s0 s1
 obtain ⟨g50, s2, b_g50, l_g50⟩ := V.eq hE54 0 2 rfl
 obtain ⟨g51, s3, b_g51, l_g51⟩ := V.eq hE54 1 3 rfl
 have s4 := V.es hE54 2 4 rfl
 clear hE54 hsz
 clear o_bel
 refine V.t_done rfl (V.nx (V.seq ?_))
 refine V.reg 13 [V.E (Vp g50 0), V.E (.agg #[.bool (Q.neg x.q), Vs x.A (Q.m x.q) x.c]), V.E (Vp g51 0), V.E (.agg #[.bool (Q.neg y.q), Vs y.A (Q.m y.q) y.c]), V.E (.bool (decide ((Q.neg x.q) = (Q.neg y.q) ∧ (Lb.limbs (Q.m x.q)) = (Lb.limbs (Q.m y.q))))), V.E (.bool (decide ((Q.neg x.q) = (Q.neg y.q) ∧ (Lb.limbs (Q.m x.q)) = (Lb.limbs (Q.m y.q))))), (V.Gd (decide ((Q.neg x.q) = (Q.neg y.q) ∧ (Lb.limbs (Q.m x.q)) = (Lb.limbs (Q.m y.q)))) (V.E (Vp g50 2))), (V.Gd (decide ((Q.neg x.q) = (Q.neg y.q) ∧ (Lb.limbs (Q.m x.q)) = (Lb.limbs (Q.m y.q)))) (V.E (.agg #[.bool false, Vs x.A' x.q.den x.c']))), (V.Gd (decide ((Q.neg x.q) = (Q.neg y.q) ∧ (Lb.limbs (Q.m x.q)) = (Lb.limbs (Q.m y.q)))) (V.E (Vp g51 2))), (V.Gd (decide ((Q.neg x.q) = (Q.neg y.q) ∧ (Lb.limbs (Q.m x.q)) = (Lb.limbs (Q.m y.q)))) (V.E (.agg #[.bool false, Vs y.A' y.q.den y.c']))), (V.Gd (decide ((Q.neg x.q) = (Q.neg y.q) ∧ (Lb.limbs (Q.m x.q)) = (Lb.limbs (Q.m y.q)))) (V.E (.bool (decide (false = false ∧ (Lb.limbs x.q.den) = (Lb.limbs y.q.den)))))), V.E (.bool ((decide ((Q.neg x.q) = (Q.neg y.q) ∧ (Lb.limbs (Q.m x.q)) = (Lb.limbs (Q.m y.q)))) && (decide (false = false ∧ (Lb.limbs x.q.den) = (Lb.limbs y.q.den))))), V.E (.bool ((decide ((Q.neg x.q) = (Q.neg y.q) ∧ (Lb.limbs (Q.m x.q)) = (Lb.limbs (Q.m y.q)))) && (decide (false = false ∧ (Lb.limbs x.q.den) = (Lb.limbs y.q.den)))))] [] (V.i hx (V.i hy (V.i hb (V.i b_g50 b_g51)))) ?_ ?_
 ·refine V.ac ?_ (V.ac ?_ (V.ac ?_ (V.ac ?_ (V.ac ?_ (V.ac ?_ (V.ac ?_ (V.ac ?_ (V.ac ?_ (V.ac ?_ (V.ac ?_ (V.ac ?_ (V.ac ?_ V.an))))))))))))
  ·exact V.z1 rfl fun h => V.xa (V.eo h 2 s2)
  ·exact V.z1 rfl fun h => V.xl (V.ed h 0 5 rfl) (V.ld_mid (xs := [.bool (Q.neg x.q), Vs x.A (Q.m x.q) x.c]) h.g.1.2.2.2.1 (by intro j hj; match j, hj with | 0, _ => rfl | 1, _ => rfl) Tryz.underlying35)
  ·exact V.z1 rfl fun h => V.xa (V.eo h 3 s3)
  ·exact V.z1 rfl fun h => V.xl (V.ed h 2 7 rfl) (V.ld_mid (xs := [.bool (Q.neg y.q), Vs y.A (Q.m y.q) y.c]) h.g.1.2.2.2.2 (by intro j hj; match j, hj with | 0, _ => rfl | 1, _ => rfl) Tryz.underlying35)
  ·refine V.s2 rfl fun f W h => ?_
   refine V.call en63 (V.args2 (V.ed h 1 6 rfl) (V.ed h 3 8 rfl)) (Calls.mono (WSame (R16.ls h.g.1.1.n) (R16.ls h.g.1.2.1.n)) ?_)
   rintro e W' ⟨rfl, hb⟩
   exact ⟨_, rfl, rfl, hb⟩
  ·exact V.z1 rfl fun h => V.xm (V.ed h 4 9 rfl)
  ·exact V.gt 5 10 rfl rfl fun hp f W h => V.v1 (V.xa (V.eo h 2 s2))
  ·exact V.gt 5 10 rfl rfl fun hp f W h => V.v1 (V.xl (V.eg h 6 11 rfl hp) (V.ld_mid (xs := [.bool false, Vs x.A' x.q.den x.c']) h.g.1.2.2.2.1 (by intro j hj; match j, hj with | 0, _ => rfl | 1, _ => rfl) Tryz.underlying35))
  ·exact V.gt 5 10 rfl rfl fun hp f W h => V.v1 (V.xa (V.eo h 3 s3))
  ·exact V.gt 5 10 rfl rfl fun hp f W h => V.v1 (V.xl (V.eg h 8 13 rfl hp) (V.ld_mid (xs := [.bool false, Vs y.A' y.q.den y.c']) h.g.1.2.2.2.2 (by intro j hj; match j, hj with | 0, _ => rfl | 1, _ => rfl) Tryz.underlying35))
  ·refine V.gt 5 10 rfl rfl fun hp f W h => ?_
   refine V.call en63 (V.args2 (V.eg h 7 12 rfl hp) (V.eg h 9 14 rfl hp)) (Calls.mono (WSame (R16.ls h.g.1.1.d) (R16.ls h.g.1.2.1.d)) ?_)
   rintro e W' ⟨rfl, hb⟩
   exact ⟨_, rfl, rfl, hb⟩
  ·refine V.s1 rfl fun f W h => ?_
   have d15 := V.dp h 10 15 (by kernel_rfl) rfl
   exact V.x_and (V.ed h 5 10 rfl) (fun e => V.ev_tmp rfl (V.gd_on d15 e)) rfl
  ·exact V.z1 rfl fun h => V.xs (V.ed h 11 16 rfl)
 intro f55 W56 hE57
 clear hx hy hb b_g50 b_g51
 obtain ⟨⟨hx, hy, hb, b_g50, b_g51⟩, hsz⟩ := hE57.g
 obtain ⟨s0, s1⟩ := V.e2 hE57 s0 s1
 have s4 := V.es hE57 12 4 rfl
 clear hE57 hsz
 refine V.t_done rfl (V.nx (V.ret ?_))
 refine V.leave_any (.inl rfl) (V.res_tmp rfl rfl s4) ?_
 exact ⟨by rw [same_q], hb⟩
end Go.Proofs.YtjbcalbbhomkjaaGreat
namespace Go.Proofs.YtjbcalbbhomkjaaGreat
def Dn (D : Nat) (q : Rat) : Prop := ∃ z : Int, q * ((D : Nat) : Rat) = (z : Rat)
theorem nat_mul (a b : Nat) : (((a * b : Nat)) : Rat) = ((a : Nat) : Rat) * ((b : Nat) : Rat) := by
 have := Rat.intCast_mul (a : Int) (b : Int)
 simp
theorem Dn.add {D : Nat} {a b : Rat} (h : Dn D a) (h' : Dn D b) : Dn D (a + b) := by
 obtain ⟨x, hx⟩ := h
 obtain ⟨y, hy⟩ := h'
 exact ⟨x + y, by rw [Rat.add_mul, hx, hy, Rat.intCast_add]⟩
theorem Dn.int (D : Nat) (z : Int) : Dn D (z : Rat) := ⟨z * (D : Int), by rw [Rat.intCast_mul]; rfl⟩
theorem Dn.mul {D E : Nat} {a b : Rat} (h : Dn D a) (h' : Dn E b) : Dn (D * E) (a * b) := by
 obtain ⟨x, hx⟩ := h
 obtain ⟨y, hy⟩ := h'
 exact ⟨x * y, by rw [nat_mul, Rat.intCast_mul, ← hx, ← hy]; grind⟩
theorem q_den (q : Rat) : q * ((q.den : Nat) : Rat) = ((q.num : Int) : Rat) := by
 have h := Rat.mkRat_self q
 rw [Rat.mkRat_eq_div] at h
 have h0 : ((q.den : Nat) : Rat) ≠ 0 := fun h => q.den_nz (Rat.natCast_eq_zero_iff.1 h)
 have h1 := Rat.div_mul_cancel (a := (q.num : Rat)) h0
 rw [h] at h1
 exact h1
theorem Dn.den (q : Rat) : Dn q.den q := ⟨q.num, q_den q⟩
theorem Dn.den_dvd {D : Nat} {q : Rat} (h : Dn D q) : q.den ∣ D := by
 obtain ⟨z, hz⟩ := h
 have hn' := q_den q
 have h1 : (((q.num * (D : Int) : Int)) : Rat) = ((z * (q.den : Int) : Int) : Rat) := by
  rw [Rat.intCast_mul, Rat.intCast_mul, ← hz, ← hn']
  show q * ((q.den : Nat) : Rat) * ((D : Nat) : Rat) = q * ((D : Nat) : Rat) * ((q.den : Nat) : Rat)
  grind
 have h2 := Rat.intCast_inj.1 h1
 have h3 : (q.den : Int) ∣ q.num * (D : Int) := ⟨z, by rw [h2, Int.mul_comm]⟩
 have h4 : q.den ∣ q.num.natAbs * D := by
  have := Int.natAbs_dvd_natAbs.2 h3
  simpa [Int.natAbs_mul] using this
 exact (Nat.Coprime.symm q.reduced).dvd_of_dvd_mul_left h4
theorem Dn.sz {D k : Nat} {q : Rat} {B : Int} (h : Dn D q) (h0 : 0 < D) (hD : D < 65536 ^ k) (hq : 0 ≤ q) (hB : q ≤ (B : Rat)) (hB3 : B < 65536 ^ 3) : Q.Sz (3 + k) q := by
 have hle : q.den ≤ D := Nat.le_of_dvd h0 h.den_dvd
 have hd : q.den < 65536 ^ k := Nat.lt_of_le_of_lt hle hD
 have hn : q.num ≤ B * (q.den : Int) := by
  have := (Rat.le_iff q (B : Rat)).1 hB
  rw [Rat.den_intCast, Rat.num_intCast] at this
  simpa using this
 have hn0 : 0 ≤ q.num := Rat.num_nonneg.2 hq
 have hB0 : 0 ≤ B := by
  have := Rat.le_trans hq hB
  exact Rat.intCast_nonneg.1 this
 refine ⟨?_, Nat.lt_of_lt_of_le hd (Nat.pow_le_pow_right (by decide) (by omega))⟩
 unfold Q.m
 have h1 : q.num.natAbs ≤ B.toNat * q.den := by
  have : (q.num.natAbs : Int) ≤ ((B.toNat * q.den : Nat) : Int) := by
   rw [Int.natCast_mul, Int.toNat_of_nonneg hB0, Int.natAbs_of_nonneg hn0]; exact hn
  exact Int.ofNat_le.1 this
 have h2 : B.toNat < 65536 ^ 3 := by omega
 rw [Nat.pow_add]
 exact Nat.lt_of_le_of_lt h1 (Nat.mul_lt_mul'' h2 hd)
def dprod : List Cl → Nat
 | [] => 1
 | x :: r => x.w.q.den * dprod r
end Go.Proofs.YtjbcalbbhomkjaaGreat
namespace Go.Proofs.YtjbcalbbhomkjaaGreat
open Go.RowKit
attribute [local irreducible] RI.frame RI.act RI.Ob RI.Tail RI.out V.Wp V.Fn Oper.wp
theorem cmp_gt {a b : Rat} (h : decide ((0 : Int) < Q.cmp a b) = true) : b ≤ a := by
  unfold Q.cmp at h
  split at h
  · simp at h
  · split at h
    · simp at h
    · grind
theorem en26 : En 26 := enters_of Tryz.func26 (by kernel_rfl) rfl
theorem nat_cast_lt {n d : Nat} (h : n < d) : ((n : Nat) : Rat) < ((d : Nat) : Rat) := Rat.intCast_lt_intCast.2 (Int.ofNat_lt.2 h)
theorem quick_sz {n d : Nat} (hn : n < 65536) (hd0 : 0 < d) (hd : d < 65536) : Q.Sz 1 (((n : Nat) : Rat) / ((d : Nat) : Rat)) := by
  obtain ⟨h1, h2⟩ := nat_div n d (by omega)
  refine ⟨?_, ?_⟩
  · unfold Q.m; rw [h1]; exact Nat.lt_of_le_of_lt (Nat.div_le_self _ _) hn
  · rw [h2]; exact Nat.lt_of_le_of_lt (Nat.div_le_self _ _) hd
def FOffA (A : Option Addr) (x : Fr) : Prop := ∀ ad, A = some ad → Fr.off ad.block x
theorem Acc.blt {W : World} {B : Nat} {T : TypeId} {k c : Nat} {A : Option Addr} {xs : List (List Value)} (h : Acc W B T k A c xs) : ∀ ad, A = some ad → ad.block < W.heap.size := by
  intro ad e
  exact (h.own.lt ad.block (by rw [e]; rfl)).2
theorem Rd.grownR {W W' : World} {sz m c : Nat} {A : Option Addr} {xs : List Value} {r : Option Nat} (h : Rd W sz A m c xs) (hg : W.grownBy W' r) (hne : 0 < m → ∀ ad, A = some ad → some ad.block ≠ r) : Rd W' sz A m c xs :=
  ⟨h.len, h.cap, h.max, fun hm => by
    obtain ⟨ad, e, hc⟩ := h.cells hm
    refine ⟨ad, e, fun j u hu => ?_⟩
    have h1 := hc j u hu
    have h2 := block_lt_of_cell h1
    rw [← h1]
    exact World.cell?_of_block (hg.block _ h2 (by rw [block_of_add]; exact hne hm ad e))⟩
theorem acc_append3 {P : Program} {W : World} {B : Nat} {T t ty : TypeId} {k c g1 : Nat} {z : Value} {A : Option Addr} {xs : List (List Value)} {T' : TypeId} {x : List Value}
    (h : Acc W B T k A c xs) (hx : Blk W g1 T' x.toArray) (hxl : x.length = k) (hroom : xs.length ≤ 100000) (ht : P.underlying t = some (.slice T)) (hi0 : (P.info? T).map (fun i => (i.size, decide (i.bytes ≤ 1000), i.zero)) = some (k, true, some z)) (hzs : z.cells.size = k ∧ 0 < k) (h1 : x.all (·.oneCell') = true) :
    ∃ A' c' W', (Builtin.append_ #[t, t] ty #[.slice A xs.length c, .slice (some ⟨g1, 0, none⟩) 1 1]).run P W = .ok (.slice A' (xs.length + 1) c') W' ∧ Acc W' B T k A' c' (xs ++ [x]) ∧ Below B W W' ∧ (∀ (g : Nat) (t' : TypeId) (cs : Array Value), T ≠ t' → Blk W g t' cs → Blk W' g t' cs) ∧ ∀ y : Fr, FOffA A y → Fr.ok W y → Fr.ok W' y ∧ FOffA A' y := by
  obtain ⟨hzs, hk⟩ := hzs
  obtain ⟨i, hi, hi1⟩ := Option.map_eq_some_iff.1 hi0
  obtain ⟨hs, hb, hz⟩ : i.size = k ∧ i.bytes ≤ 1000 ∧ i.zero = some z := by simpa using hi1
  have hr : Rd W k (some ⟨g1, 0, none⟩) 1 1 x := ⟨by omega, Nat.le_refl _, by omega, fun _ => ⟨_, rfl, fun j u hu => by rw [Addr.add_mid, hx.cell]; simpa using hu⟩⟩
  have hbb : i.bytes * (xs.length + 1) ≤ 140737488355328 := Nat.le_trans (Nat.mul_le_mul hb (show xs.length + 1 ≤ 100001 by omega)) (by decide)
  obtain ⟨A', c', W', hrun, h2, h3, h4⟩ := run_app_rd (P := P) W B t ty T i z k i.bytes ht hi hz hs rfl hzs hk _ _ _ h.own _ 1 1 x hr (fun u hu => (List.all_eq_true.1 h1) u hu) (by omega) hbb h.le
  refine ⟨A', c', W', hrun, ⟨?_, fun y hy => ?_, Nat.le_trans h.le h3.size⟩, Below.of_grown h3 h.le fun b e => (h.own.lt b e).1, fun g t' cs hne hb => hb.grown h3 (own_blk_ne h.own hb hne), fun y ho hy => ⟨⟨⟨?_, hy.n.ok⟩, ⟨?_, hy.d.ok⟩⟩, ?_⟩⟩
  · simpa using h2
  · rcases List.mem_append.1 hy with hy | hy
    · exact h.sz y hy
    · have : y = x := by simpa using hy
      rw [this]; exact hxl
  · refine hy.n.rd.grownR h3 fun h0 ad e => ?_
    cases A with
    | none => simp [Value.ownBlock]
    | some a => intro e2; simp [Value.ownBlock] at e2; exact (ho a rfl).1 h0 ad e e2
  · refine hy.d.rd.grownR h3 fun h0 ad e => ?_
    cases A with
    | none => simp [Value.ownBlock]
    | some a => intro e2; simp [Value.ownBlock] at e2; exact (ho a rfl).2 h0 ad e e2
  · intro ad e
    rcases h4 ad e with h5 | h5
    · cases A with
      | none => simp [Value.ownBlock] at h5
      | some a => simp [Value.ownBlock] at h5; rw [h5]; exact ho a rfl
    · exact hy.off (by omega)
theorem Mul_f {x y : Fr} {w : World} (hx : Fr.ok w x) (hy : Fr.ok w y) (z1 : Q.Sz 256 x.q) (z2 : Q.Sz 256 y.q) (z3 : Q.Sz 256 (x.q * y.q)) :
    Calls Tryz.prog 28 #[x.v, y.v] w fun e w' => ∃ z : Fr, e = .returned (.tuple #[z.v, .int .i64 0]) ∧ Fr.ok w' z ∧ z.q = x.q * y.q ∧ (∀ g, g < w.heap.size → Fr.off g z) ∧ Below w.heap.size w w' := by
  refine Calls.mono (Mul_q hx.n hx.d hy.n hy.d z1 z2 (by omega) (by omega) z3) ?_
  rintro e w' ⟨A, c, A', c', rfl, h1, h2, h3, h4, hb⟩
  exact ⟨⟨A, c, A', c', _⟩, rfl, ⟨h1, h2⟩, rfl, fun g hg => ⟨fun _ ad e => by have := h3 ad e; omega, fun _ ad e => by have := h4 ad e; omega⟩, hb⟩
theorem Valid_r {A : Option Addr} {c : Nat} {l : List Cl} {w : World} (hl : Ls w 6 A l.length c (l.map Cl.cells)) (hfr : ∀ x ∈ l, Fr.ok w x.w) :
    Calls Tryz.prog 30 #[.slice A l.length c] w fun e w' => e = .returned (.bool (validL (l.map Cl.raw))) ∧ Below w.heap.size w w' := by
  have := Valid_s (raw_ls hl) (raw_ok hfr)
  rwa [List.length_map] at this
def SI (f : Rat) (l ms : List Cl) : Prop := ∀ (j : Nat) (x y : Cl), l[j]? = some x → ms[j]? = some y → y.id = x.id ∧ y.cap = x.cap ∧ y.w.q = x.w.q * f
theorem SI.snoc {f : Rat} {l ms : List Cl} {i : Nat} {x : Cl} {z : Fr} (h : SI f l ms) (hm : ms.length = i) (hx : l[i]? = some x) (hz : z.q = x.w.q * f) : SI f l (ms ++ [⟨x.id, z, x.cap⟩]) := by
  intro j a b ha hb
  rcases Nat.lt_or_ge j ms.length with h1 | h1
  · rw [List.getElem?_append_left h1] at hb; exact h j a b ha hb
  · rw [List.getElem?_append_right h1] at hb
    have h2 := (List.getElem?_eq_some_iff.1 hb).1
    have h3 : j = ms.length := by simp at h2; omega
    subst h3
    rw [Nat.sub_self] at hb
    have h4 : (⟨x.id, z, x.cap⟩ : Cl) = b := by simpa using hb
    rw [hm, hx] at ha; cases ha
    rw [← h4]; exact ⟨rfl, rfl, hz⟩
theorem SI.scaled {f : Rat} {l ms : List Cl} (h : SI f l ms) (hl : ms.length = l.length) : Scaled f l ms := ⟨hl, fun j x y hx hy => ⟨(h j x y hx hy).2.1, (h j x y hx hy).2.2⟩⟩
theorem SI.valid {f : Rat} {l ms : List Cl} (h : SI f l ms) (hl : ms.length = l.length) (hf : 0 ≤ f) (hV : ValidC l) (hv : validL (ms.map Cl.raw) = true) : ValidC ms := by
  rw [validL_iff] at hv
  have hex : ∀ {j : Nat} {y : Cl}, ms[j]? = some y → ∃ x, l[j]? = some x := fun hy => ⟨_, List.getElem?_eq_getElem (by rw [← hl]; exact (List.getElem?_eq_some_iff.1 hy).1)⟩
  refine ⟨by rw [hl]; exact hV.n, fun y hy => ?_, fun j a b ha hb => ?_⟩
  · obtain ⟨j, hj⟩ := List.getElem?_of_mem hy
    obtain ⟨x, hx⟩ := hex hj
    obtain ⟨_, h2, h3⟩ := h j x y hx hj
    have gx := hV.g x (List.mem_of_getElem? hx)
    have hr := hv.r y.raw (List.mem_map_of_mem hy)
    unfold rightB at hr
    simp only [Bool.and_eq_true, decide_eq_true_eq, Bool.not_eq_true'] at hr
    obtain ⟨⟨⟨⟨⟨a1, a2⟩, a3⟩, a4⟩, a5⟩, a6⟩ := hr
    exact ⟨a1, a2, ⟨Q.lt_len (Int.ofNat_le.1 a3), Q.lt_len (Int.ofNat_le.1 a4)⟩, by rw [h3]; exact Rat.mul_nonneg gx.p hf⟩
  · obtain ⟨x, hx⟩ := hex ha
    obtain ⟨x', hx'⟩ := hex hb
    rw [(h j x a hx ha).1, (h (j + 1) x' b hx' hb).1]
    exact hV.s j x x' hx hx'
theorem Scaled.ev {f : Rat} {l k : List Cl} (h : Scaled f l k) (t : Rat) : ev t k = ev (t * f) l := by
  refine List.ext_getElem? fun j => ?_
  rcases Nat.lt_or_ge j l.length with hj | hj
  · obtain ⟨x, hx⟩ : ∃ x, l[j]? = some x := ⟨_, List.getElem?_eq_getElem hj⟩
    obtain ⟨y, hy⟩ : ∃ y, k[j]? = some y := ⟨_, List.getElem?_eq_getElem (by rw [h.len]; exact hj)⟩
    obtain ⟨e1, e2⟩ := h.at_ j x y hx hy
    rw [ev_at hx, ev_at hy, e1, e2]
    have : t * (x.w.q * f) = t * f * x.w.q := by grind
    rw [this]
  · rw [List.getElem?_eq_none (by rw [ev_length, h.len]; exact hj), List.getElem?_eq_none (by rw [ev_length]; exact hj)]
theorem Scaled.tot {f : Rat} (hf : f ≠ 0) {l k : List Cl} (h : Scaled f l k) (a : Int) : tot a k = tot a l := by unfold Go.Proofs.YtjbcalbbhomkjaaGreat.tot; rw [h.csum hf]
theorem PartsOf.scaled {a : Int} {f : Rat} {l k : List Cl} {t t' : Rat} {ys ys' : List Nat} {m m' : Nat} {rs rs' : List Int} (h : PartsOf a l t ys m rs) (h' : PartsOf a k t' ys' m' rs') (hS : Scaled f l k) (hf : 0 < f) (hg : ∀ x ∈ l, x.good) : rs = rs' := by
  have e := h.lev.uniq (hS.lev hf h'.lev) hg
  have he : Go.Proofs.YtjbcalbbhomkjaaGreat.ev t l = Go.Proofs.YtjbcalbbhomkjaaGreat.ev t' k := by rw [hS.ev, e]
  refine h.uniq h' he ?_
  have h1 := h.hm
  have h2 := h'.hm
  rw [hS.tot (by grind)] at h2
  rw [he] at h1
  omega
theorem all_snocC {p : Fr → Prop} {ms : List Cl} {y : Cl} (h : ∀ x ∈ ms, p x.w) (hy : p y.w) : ∀ x ∈ ms ++ [y], p x.w := fun x hx => by
  rcases List.mem_append.1 hx with hx | hx
  · exact h x hx
  · have : x = y := by simpa using hx
    rw [this]; exact hy
theorem scale_no1 {A : Option Addr} {c : Nat} {l : List Rc} {w : World} (hl : Ls w 6 A l.length c (l.map Rc.cells)) (hfr : ∀ x ∈ l, Rc.ok w x) {a : Int} {n d : Nat} (ha : usableB a l = false) :
    Calls Tryz.prog 7 #[.int .i64 a, .slice A l.length c, .int .u8 (n : Int), .int .u8 (d : Int)] w fun e w' => e = .returned (.bool true) ∧ Below w.heap.size w w' := by
 refine V.enter Tryz.func7 rfl rfl (by simp) fun f0 hf => ?_
 have s0 : f0 0 = .int .i64 a := hf 0 (by simp)
 have s1 : f0 1 = .slice A l.length c := hf 1 (by simp)
 have s2 : f0 2 = .int .u8 (n : Int) := hf 2 (by simp)
 have s3 : f0 3 = .int .u8 (d : Int) := hf 3 (by simp)
 clear hf
 have hb : Below w.heap.size w w := Below.refl _ _
 have w_hl := hl
 have w_hfr := hfr
 refine V.seq ?_
 refine V.reg 1 [V.E (.bool false)] [] (V.i hl (V.i hfr hb)) ?_ ?_
 ·refine V.ac ?_ V.an
  ·exact V.z1 rfl fun h => V.xs rfl
 intro f1 W2 hE3
 clear hl hfr hb
 obtain ⟨⟨hl, hfr, hb⟩, hsz⟩ := hE3.g
 obtain ⟨s0, s1, s2, s3⟩ := V.e4 hE3 s0 s1 s2 s3
 have s8 := V.es hE3 0 8 rfl
 clear hE3 hsz
 refine V.t_done rfl (V.nx (V.seq (V.seq ?_)))
 refine V.reg 2 [V.E (.bool true), V.E (.bool false)] [] (V.i hl (V.i hfr hb)) ?_ ?_
 ·refine V.ac ?_ (V.ac ?_ V.an)
  ·refine V.s2 rfl fun f W h => ?_
   refine V.call en11 (V.args0 ) (Calls.mono (awake_s) ?_)
   rintro e W' ⟨rfl, hb⟩
   exact ⟨_, rfl, rfl, hb⟩
  ·exact V.z1 rfl fun h => V.x_un (V.ed h 0 25 rfl)
 intro f4 W5 hE6
 clear hl hfr hb
 obtain ⟨⟨hl, hfr, hb⟩, hsz⟩ := hE6.g
 obtain ⟨s0, s1, s2, s3, s8⟩ := V.e5 hE6 s0 s1 s2 s3 s8
 have s26 := V.es hE6 1 26 rfl
 clear hE6 hsz
 refine V.t_done rfl (V.nx ?_)
 refine V.cond_f (V.ev_tmp rfl s26) ?_
 refine V.skip ?_
 refine V.nx (V.seq (V.seq ?_))
 refine V.reg 12 [V.E (.int .i64 a), V.E (.slice A l.length c), V.E (.bool false), V.E (.bool true), V.E (.bool true), (V.Gd (!true) (V.E (.int .u8 (n : Int)))), (V.Gd (!true) (V.E (.bool ((n : Int) == (0 : Int))))), V.E (.bool true), V.E (.bool true), (V.Gd (!true) (V.E (.int .u8 (d : Int)))), (V.Gd (!true) (V.E (.bool ((d : Int) == (0 : Int))))), V.E (.bool true)] [] (V.i hl (V.i hfr hb)) ?_ ?_
 ·refine V.ac ?_ (V.ac ?_ (V.ac ?_ (V.ac ?_ (V.ac ?_ (V.ac ?_ (V.ac ?_ (V.ac ?_ (V.ac ?_ (V.ac ?_ (V.ac ?_ (V.ac ?_ V.an)))))))))))
  ·exact V.z1 rfl fun h => V.xm (V.eo h 0 s0)
  ·exact V.z1 rfl fun h => V.xm (V.eo h 1 s1)
  ·refine V.s2 rfl fun f W h => ?_
   refine V.call en12 (V.args2 (V.ed h 0 27 rfl) (V.ed h 1 28 rfl)) (Calls.mono (usable_s h.g.1.1 h.g.1.2.1) ?_)
   rintro e W' ⟨e7, hb⟩
   rw [ha] at e7
   subst e7
   exact ⟨_, rfl, rfl, hb⟩
  ·exact V.z1 rfl fun h => V.x_un (V.ed h 2 29 rfl)
  ·exact V.z1 rfl fun h => V.xm (V.ed h 3 30 rfl)
  ·exact V.gf 4 31 rfl rfl fun hp f W h => V.v1 (V.xm (V.eo h 2 s2))
  ·exact V.gf 4 31 rfl rfl fun hp f W h => V.v1 (V.xb (V.eg h 5 32 rfl hp) rfl)
  ·refine V.s1 rfl fun f W h => ?_
   have d33 := V.dp h 6 33 (by kernel_rfl) rfl
   exact V.x_pick_t (V.ed h 4 31 rfl) rfl
  ·exact V.z1 rfl fun h => V.xm (V.ed h 7 34 rfl)
  ·exact V.gf 8 35 rfl rfl fun hp f W h => V.v1 (V.xm (V.eo h 3 s3))
  ·exact V.gf 8 35 rfl rfl fun hp f W h => V.v1 (V.xb (V.eg h 9 36 rfl hp) rfl)
  ·refine V.s1 rfl fun f W h => ?_
   have d37 := V.dp h 10 37 (by kernel_rfl) rfl
   exact V.x_pick_t (V.ed h 8 35 rfl) rfl
 intro f8 W9 hE10
 clear hl hfr hb
 obtain ⟨⟨hl, hfr, hb⟩, hsz⟩ := hE10.g
 obtain ⟨s0, s1, s2, s3, s8⟩ := V.e5 hE10 s0 s1 s2 s3 s8
 have s38 := V.es hE10 11 38 rfl
 clear hE10 hsz
 refine V.t_done rfl (V.nx ?_)
 refine V.cond_t (V.ev_tmp rfl s38) ?_
 refine V.seq ?_
 refine V.reg 1 [V.E (.bool true)] [] (V.i hl (V.i hfr hb)) ?_ ?_
 ·refine V.ac ?_ V.an
  ·exact V.z1 rfl fun h => V.xs rfl
 intro f11 W12 hE13
 clear hl hfr hb
 obtain ⟨⟨hl, hfr, hb⟩, hsz⟩ := hE13.g
 obtain ⟨s0, s1, s2, s3⟩ := V.e4 hE13 s0 s1 s2 s3
 have s8 := V.es hE13 0 8 rfl
 clear hE13 hsz
 refine V.t_done rfl (V.nx (V.ret (V.tr ?_)))
 refine V.leave_any (.inl rfl) (V.res_tmp rfl rfl s8) ?_
 exact ⟨rfl, hb⟩
theorem scale_no2 {A : Option Addr} {c : Nat} {l : List Rc} {w : World} (hl : Ls w 6 A l.length c (l.map Rc.cells)) (hfr : ∀ x ∈ l, Rc.ok w x) {a : Int} {n d : Nat} (ha : usableB a l = true) (hn : n = 0) :
    Calls Tryz.prog 7 #[.int .i64 a, .slice A l.length c, .int .u8 (n : Int), .int .u8 (d : Int)] w fun e w' => e = .returned (.bool true) ∧ Below w.heap.size w w' := by
 refine V.enter Tryz.func7 rfl rfl (by simp) fun f0 hf => ?_
 have s0 : f0 0 = .int .i64 a := hf 0 (by simp)
 have s1 : f0 1 = .slice A l.length c := hf 1 (by simp)
 have s2 : f0 2 = .int .u8 (n : Int) := hf 2 (by simp)
 have s3 : f0 3 = .int .u8 (d : Int) := hf 3 (by simp)
 clear hf
 have hb : Below w.heap.size w w := Below.refl _ _
 have w_hl := hl
 have w_hfr := hfr
 refine V.seq ?_
 refine V.reg 1 [V.E (.bool false)] [] (V.i hl (V.i hfr hb)) ?_ ?_
 ·refine V.ac ?_ V.an
  ·exact V.z1 rfl fun h => V.xs rfl
 intro f14 W15 hE16
 clear hl hfr hb
 obtain ⟨⟨hl, hfr, hb⟩, hsz⟩ := hE16.g
 obtain ⟨s0, s1, s2, s3⟩ := V.e4 hE16 s0 s1 s2 s3
 have s8 := V.es hE16 0 8 rfl
 clear hE16 hsz
 refine V.t_done rfl (V.nx (V.seq (V.seq ?_)))
 refine V.reg 2 [V.E (.bool true), V.E (.bool false)] [] (V.i hl (V.i hfr hb)) ?_ ?_
 ·refine V.ac ?_ (V.ac ?_ V.an)
  ·refine V.s2 rfl fun f W h => ?_
   refine V.call en11 (V.args0 ) (Calls.mono (awake_s) ?_)
   rintro e W' ⟨rfl, hb⟩
   exact ⟨_, rfl, rfl, hb⟩
  ·exact V.z1 rfl fun h => V.x_un (V.ed h 0 25 rfl)
 intro f17 W18 hE19
 clear hl hfr hb
 obtain ⟨⟨hl, hfr, hb⟩, hsz⟩ := hE19.g
 obtain ⟨s0, s1, s2, s3, s8⟩ := V.e5 hE19 s0 s1 s2 s3 s8
 have s26 := V.es hE19 1 26 rfl
 clear hE19 hsz
 refine V.t_done rfl (V.nx ?_)
 refine V.cond_f (V.ev_tmp rfl s26) ?_
 refine V.skip ?_
 refine V.nx (V.seq (V.seq ?_))
 refine V.reg 12 [V.E (.int .i64 a), V.E (.slice A l.length c), V.E (.bool true), V.E (.bool false), V.E (.bool false), (V.Gd (!false) (V.E (.int .u8 (n : Int)))), (V.Gd (!false) (V.E (.bool true))), V.E (.bool true), V.E (.bool true), (V.Gd (!true) (V.E (.int .u8 (d : Int)))), (V.Gd (!true) (V.E (.bool ((d : Int) == (0 : Int))))), V.E (.bool true)] [] (V.i hl (V.i hfr hb)) ?_ ?_
 ·refine V.ac ?_ (V.ac ?_ (V.ac ?_ (V.ac ?_ (V.ac ?_ (V.ac ?_ (V.ac ?_ (V.ac ?_ (V.ac ?_ (V.ac ?_ (V.ac ?_ (V.ac ?_ V.an)))))))))))
  ·exact V.z1 rfl fun h => V.xm (V.eo h 0 s0)
  ·exact V.z1 rfl fun h => V.xm (V.eo h 1 s1)
  ·refine V.s2 rfl fun f W h => ?_
   refine V.call en12 (V.args2 (V.ed h 0 27 rfl) (V.ed h 1 28 rfl)) (Calls.mono (usable_s h.g.1.1 h.g.1.2.1) ?_)
   rintro e W' ⟨e20, hb⟩
   rw [ha] at e20
   subst e20
   exact ⟨_, rfl, rfl, hb⟩
  ·exact V.z1 rfl fun h => V.x_un (V.ed h 2 29 rfl)
  ·exact V.z1 rfl fun h => V.xm (V.ed h 3 30 rfl)
  ·exact V.gf 4 31 rfl rfl fun hp f W h => V.v1 (V.xm (V.eo h 2 s2))
  ·exact V.gf 4 31 rfl rfl fun hp f W h => V.v1 (V.xb (V.eg h 5 32 rfl hp) rfl ((by kernel_rfl : _ = Result.ok (.bool (((n : Int) == (0 : Int)))) _).trans (by rw [show (((n : Int) == (0 : Int))) = true from (by rw [hn]; rfl)])))
  ·refine V.s1 rfl fun f W h => ?_
   have d33 := V.dp h 6 33 (by kernel_rfl) rfl
   exact V.x_pick_f (V.ed h 4 31 rfl) (V.ev_tmp rfl (V.gd_on d33 rfl))
  ·exact V.z1 rfl fun h => V.xm (V.ed h 7 34 rfl)
  ·exact V.gf 8 35 rfl rfl fun hp f W h => V.v1 (V.xm (V.eo h 3 s3))
  ·exact V.gf 8 35 rfl rfl fun hp f W h => V.v1 (V.xb (V.eg h 9 36 rfl hp) rfl)
  ·refine V.s1 rfl fun f W h => ?_
   have d37 := V.dp h 10 37 (by kernel_rfl) rfl
   exact V.x_pick_t (V.ed h 8 35 rfl) rfl
 intro f21 W22 hE23
 clear hl hfr hb
 obtain ⟨⟨hl, hfr, hb⟩, hsz⟩ := hE23.g
 obtain ⟨s0, s1, s2, s3, s8⟩ := V.e5 hE23 s0 s1 s2 s3 s8
 have s38 := V.es hE23 11 38 rfl
 clear hE23 hsz
 refine V.t_done rfl (V.nx ?_)
 refine V.cond_t (V.ev_tmp rfl s38) ?_
 refine V.seq ?_
 refine V.reg 1 [V.E (.bool true)] [] (V.i hl (V.i hfr hb)) ?_ ?_
 ·refine V.ac ?_ V.an
  ·exact V.z1 rfl fun h => V.xs rfl
 intro f24 W25 hE26
 clear hl hfr hb
 obtain ⟨⟨hl, hfr, hb⟩, hsz⟩ := hE26.g
 obtain ⟨s0, s1, s2, s3⟩ := V.e4 hE26 s0 s1 s2 s3
 have s8 := V.es hE26 0 8 rfl
 clear hE26 hsz
 refine V.t_done rfl (V.nx (V.ret (V.tr ?_)))
 refine V.leave_any (.inl rfl) (V.res_tmp rfl rfl s8) ?_
 exact ⟨rfl, hb⟩
theorem scale_no3 {A : Option Addr} {c : Nat} {l : List Rc} {w : World} (hl : Ls w 6 A l.length c (l.map Rc.cells)) (hfr : ∀ x ∈ l, Rc.ok w x) {a : Int} {n d : Nat} (ha : usableB a l = true) (hn : 0 < n) (hd : d = 0) :
    Calls Tryz.prog 7 #[.int .i64 a, .slice A l.length c, .int .u8 (n : Int), .int .u8 (d : Int)] w fun e w' => e = .returned (.bool true) ∧ Below w.heap.size w w' := by
 refine V.enter Tryz.func7 rfl rfl (by simp) fun f0 hf => ?_
 have s0 : f0 0 = .int .i64 a := hf 0 (by simp)
 have s1 : f0 1 = .slice A l.length c := hf 1 (by simp)
 have s2 : f0 2 = .int .u8 (n : Int) := hf 2 (by simp)
 have s3 : f0 3 = .int .u8 (d : Int) := hf 3 (by simp)
 clear hf
 have hb : Below w.heap.size w w := Below.refl _ _
 have w_hl := hl
 have w_hfr := hfr
 refine V.seq ?_
 refine V.reg 1 [V.E (.bool false)] [] (V.i hl (V.i hfr hb)) ?_ ?_
 ·refine V.ac ?_ V.an
  ·exact V.z1 rfl fun h => V.xs rfl
 intro f27 W28 hE29
 clear hl hfr hb
 obtain ⟨⟨hl, hfr, hb⟩, hsz⟩ := hE29.g
 obtain ⟨s0, s1, s2, s3⟩ := V.e4 hE29 s0 s1 s2 s3
 have s8 := V.es hE29 0 8 rfl
 clear hE29 hsz
 refine V.t_done rfl (V.nx (V.seq (V.seq ?_)))
 refine V.reg 2 [V.E (.bool true), V.E (.bool false)] [] (V.i hl (V.i hfr hb)) ?_ ?_
 ·refine V.ac ?_ (V.ac ?_ V.an)
  ·refine V.s2 rfl fun f W h => ?_
   refine V.call en11 (V.args0 ) (Calls.mono (awake_s) ?_)
   rintro e W' ⟨rfl, hb⟩
   exact ⟨_, rfl, rfl, hb⟩
  ·exact V.z1 rfl fun h => V.x_un (V.ed h 0 25 rfl)
 intro f30 W31 hE32
 clear hl hfr hb
 obtain ⟨⟨hl, hfr, hb⟩, hsz⟩ := hE32.g
 obtain ⟨s0, s1, s2, s3, s8⟩ := V.e5 hE32 s0 s1 s2 s3 s8
 have s26 := V.es hE32 1 26 rfl
 clear hE32 hsz
 refine V.t_done rfl (V.nx ?_)
 refine V.cond_f (V.ev_tmp rfl s26) ?_
 refine V.skip ?_
 refine V.nx (V.seq (V.seq ?_))
 refine V.reg 12 [V.E (.int .i64 a), V.E (.slice A l.length c), V.E (.bool true), V.E (.bool false), V.E (.bool false), (V.Gd (!false) (V.E (.int .u8 (n : Int)))), (V.Gd (!false) (V.E (.bool false))), V.E (.bool false), V.E (.bool false), (V.Gd (!false) (V.E (.int .u8 (d : Int)))), (V.Gd (!false) (V.E (.bool true))), V.E (.bool true)] [] (V.i hl (V.i hfr hb)) ?_ ?_
 ·refine V.ac ?_ (V.ac ?_ (V.ac ?_ (V.ac ?_ (V.ac ?_ (V.ac ?_ (V.ac ?_ (V.ac ?_ (V.ac ?_ (V.ac ?_ (V.ac ?_ (V.ac ?_ V.an)))))))))))
  ·exact V.z1 rfl fun h => V.xm (V.eo h 0 s0)
  ·exact V.z1 rfl fun h => V.xm (V.eo h 1 s1)
  ·refine V.s2 rfl fun f W h => ?_
   refine V.call en12 (V.args2 (V.ed h 0 27 rfl) (V.ed h 1 28 rfl)) (Calls.mono (usable_s h.g.1.1 h.g.1.2.1) ?_)
   rintro e W' ⟨e33, hb⟩
   rw [ha] at e33
   subst e33
   exact ⟨_, rfl, rfl, hb⟩
  ·exact V.z1 rfl fun h => V.x_un (V.ed h 2 29 rfl)
  ·exact V.z1 rfl fun h => V.xm (V.ed h 3 30 rfl)
  ·exact V.gf 4 31 rfl rfl fun hp f W h => V.v1 (V.xm (V.eo h 2 s2))
  ·exact V.gf 4 31 rfl rfl fun hp f W h => V.v1 (V.xb (V.eg h 5 32 rfl hp) rfl ((by kernel_rfl : _ = Result.ok (.bool (((n : Int) == (0 : Int)))) _).trans (by rw [show (((n : Int) == (0 : Int))) = false from beq_eq_false_iff_ne.2 (by omega)])))
  ·refine V.s1 rfl fun f W h => ?_
   have d33 := V.dp h 6 33 (by kernel_rfl) rfl
   exact V.x_pick_f (V.ed h 4 31 rfl) (V.ev_tmp rfl (V.gd_on d33 rfl))
  ·exact V.z1 rfl fun h => V.xm (V.ed h 7 34 rfl)
  ·exact V.gf 8 35 rfl rfl fun hp f W h => V.v1 (V.xm (V.eo h 3 s3))
  ·exact V.gf 8 35 rfl rfl fun hp f W h => V.v1 (V.xb (V.eg h 9 36 rfl hp) rfl ((by kernel_rfl : _ = Result.ok (.bool (((d : Int) == (0 : Int)))) _).trans (by rw [show (((d : Int) == (0 : Int))) = true from (by rw [hd]; rfl)])))
  ·refine V.s1 rfl fun f W h => ?_
   have d37 := V.dp h 10 37 (by kernel_rfl) rfl
   exact V.x_pick_f (V.ed h 8 35 rfl) (V.ev_tmp rfl (V.gd_on d37 rfl))
 intro f34 W35 hE36
 clear hl hfr hb
 obtain ⟨⟨hl, hfr, hb⟩, hsz⟩ := hE36.g
 obtain ⟨s0, s1, s2, s3, s8⟩ := V.e5 hE36 s0 s1 s2 s3 s8
 have s38 := V.es hE36 11 38 rfl
 clear hE36 hsz
 refine V.t_done rfl (V.nx ?_)
 refine V.cond_t (V.ev_tmp rfl s38) ?_
 refine V.seq ?_
 refine V.reg 1 [V.E (.bool true)] [] (V.i hl (V.i hfr hb)) ?_ ?_
 ·refine V.ac ?_ V.an
  ·exact V.z1 rfl fun h => V.xs rfl
 intro f37 W38 hE39
 clear hl hfr hb
 obtain ⟨⟨hl, hfr, hb⟩, hsz⟩ := hE39.g
 obtain ⟨s0, s1, s2, s3⟩ := V.e4 hE39 s0 s1 s2 s3
 have s8 := V.es hE39 0 8 rfl
 clear hE39 hsz
 refine V.t_done rfl (V.nx (V.ret (V.tr ?_)))
 refine V.leave_any (.inl rfl) (V.res_tmp rfl rfl s8) ?_
 exact ⟨rfl, hb⟩
theorem quick_pos {n d : Nat} (hn : 0 < n) (hd : 0 < d) : (0 : Rat) < ((n : Nat) : Rat) / ((d : Nat) : Rat) := by
  have h1 : (0 : Rat) < ((n : Nat) : Rat) := nat_cast_lt hn
  have h2 : (0 : Rat) < ((d : Nat) : Rat) := nat_cast_lt hd
  have e := Rat.div_mul_cancel (a := ((n : Nat) : Rat)) (Rat.ne_of_pos h2)
  apply Decidable.byContradiction; intro hc
  have := Rat.mul_le_mul_of_nonneg_right (Rat.not_lt.1 hc) (Rat.le_of_lt h2)
  grind
theorem scale_yes {A : Option Addr} {c : Nat} {l : List Cl} {w : World} (hl : Ls w 6 A l.length c (l.map Cl.cells)) (hfr : ∀ x ∈ l, Fr.ok w x.w) (hV : ValidC l) (h10 : l.length ≤ 10) {a : Int} (h0 : 0 ≤ a) (h1 : a ≤ 1099511627776) {n d : Nat} (hn : n < 256) (hd : d < 256) (hn0 : 0 < n) (hd0 : 0 < d) :
    Calls Tryz.prog 7 #[.int .i64 a, .slice A l.length c, .int .u8 (n : Int), .int .u8 (d : Int)] w fun e w' => e = .returned (.bool true) ∧ Below w.heap.size w w' := by
 have h20 : l.length < 20 := by omega
 have hgood := hV.g
 refine V.enter Tryz.func7 rfl rfl (by simp) fun f0 hf => ?_
 have s0 : f0 0 = .int .i64 a := hf 0 (by simp)
 have s1 : f0 1 = .slice A l.length c := hf 1 (by simp)
 have s2 : f0 2 = .int .u8 (n : Int) := hf 2 (by simp)
 have s3 : f0 3 = .int .u8 (d : Int) := hf 3 (by simp)
 clear hf
 have hb : Below w.heap.size w w := Below.refl _ _
 have w_hl := hl
 have w_hfr := hfr
 refine V.seq ?_
 refine V.reg 1 [V.E (.bool false)] [] (V.i hl (V.i hfr hb)) ?_ ?_
 ·refine V.ac ?_ V.an
  ·exact V.z1 rfl fun h => V.xs rfl
 intro f40 W41 hE42
 clear hl hfr hb
 obtain ⟨⟨hl, hfr, hb⟩, hsz⟩ := hE42.g
 obtain ⟨s0, s1, s2, s3⟩ := V.e4 hE42 s0 s1 s2 s3
 have s8 := V.es hE42 0 8 rfl
 clear hE42 hsz
 refine V.t_done rfl (V.nx (V.seq (V.seq ?_)))
 refine V.reg 2 [V.E (.bool true), V.E (.bool false)] [] (V.i hl (V.i hfr hb)) ?_ ?_
 ·refine V.ac ?_ (V.ac ?_ V.an)
  ·refine V.s2 rfl fun f W h => ?_
   refine V.call en11 (V.args0 ) (Calls.mono (awake_s) ?_)
   rintro e W' ⟨rfl, hb⟩
   exact ⟨_, rfl, rfl, hb⟩
  ·exact V.z1 rfl fun h => V.x_un (V.ed h 0 25 rfl)
 intro f43 W44 hE45
 clear hl hfr hb
 obtain ⟨⟨hl, hfr, hb⟩, hsz⟩ := hE45.g
 obtain ⟨s0, s1, s2, s3, s8⟩ := V.e5 hE45 s0 s1 s2 s3 s8
 have s26 := V.es hE45 1 26 rfl
 clear hE45 hsz
 refine V.t_done rfl (V.nx ?_)
 refine V.cond_f (V.ev_tmp rfl s26) ?_
 refine V.skip ?_
 refine V.nx (V.seq (V.seq ?_))
 refine V.reg 12 [V.E (.int .i64 a), V.E (.slice A l.length c), V.E (.bool true), V.E (.bool false), V.E (.bool false), (V.Gd (!false) (V.E (.int .u8 (n : Int)))), (V.Gd (!false) (V.E (.bool false))), V.E (.bool false), V.E (.bool false), (V.Gd (!false) (V.E (.int .u8 (d : Int)))), (V.Gd (!false) (V.E (.bool false))), V.E (.bool false)] [] (V.i hl (V.i hfr hb)) ?_ ?_
 ·refine V.ac ?_ (V.ac ?_ (V.ac ?_ (V.ac ?_ (V.ac ?_ (V.ac ?_ (V.ac ?_ (V.ac ?_ (V.ac ?_ (V.ac ?_ (V.ac ?_ (V.ac ?_ V.an)))))))))))
  ·exact V.z1 rfl fun h => V.xm (V.eo h 0 s0)
  ·exact V.z1 rfl fun h => V.xm (V.eo h 1 s1)
  ·refine V.s2 rfl fun f W h => ?_
   refine V.call en12 (V.args2 (V.ed h 0 27 rfl) (V.ed h 1 28 rfl)) (Calls.mono (usable_t h.g.1.1 h.g.1.2.1 hV h10 h0 h1) ?_)
   rintro e W' ⟨rfl, hb⟩
   exact ⟨_, rfl, rfl, hb⟩
  ·exact V.z1 rfl fun h => V.x_un (V.ed h 2 29 rfl)
  ·exact V.z1 rfl fun h => V.xm (V.ed h 3 30 rfl)
  ·exact V.gf 4 31 rfl rfl fun hp f W h => V.v1 (V.xm (V.eo h 2 s2))
  ·exact V.gf 4 31 rfl rfl fun hp f W h => V.v1 (V.xb (V.eg h 5 32 rfl hp) rfl ((by kernel_rfl : _ = Result.ok (.bool (((n : Int) == (0 : Int)))) _).trans (by rw [show (((n : Int) == (0 : Int))) = false from beq_eq_false_iff_ne.2 (by omega)])))
  ·refine V.s1 rfl fun f W h => ?_
   have d33 := V.dp h 6 33 (by kernel_rfl) rfl
   exact V.x_pick_f (V.ed h 4 31 rfl) (V.ev_tmp rfl (V.gd_on d33 rfl))
  ·exact V.z1 rfl fun h => V.xm (V.ed h 7 34 rfl)
  ·exact V.gf 8 35 rfl rfl fun hp f W h => V.v1 (V.xm (V.eo h 3 s3))
  ·exact V.gf 8 35 rfl rfl fun hp f W h => V.v1 (V.xb (V.eg h 9 36 rfl hp) rfl ((by kernel_rfl : _ = Result.ok (.bool (((d : Int) == (0 : Int)))) _).trans (by rw [show (((d : Int) == (0 : Int))) = false from beq_eq_false_iff_ne.2 (by omega)])))
  ·refine V.s1 rfl fun f W h => ?_
   have d37 := V.dp h 10 37 (by kernel_rfl) rfl
   exact V.x_pick_f (V.ed h 8 35 rfl) (V.ev_tmp rfl (V.gd_on d37 rfl))
 intro f46 W47 hE48
 clear hl hfr hb
 obtain ⟨⟨hl, hfr, hb⟩, hsz⟩ := hE48.g
 obtain ⟨s0, s1, s2, s3, s8⟩ := V.e5 hE48 s0 s1 s2 s3 s8
 have s38 := V.es hE48 11 38 rfl
 clear hE48 hsz
 refine V.t_done rfl (V.nx ?_)
 refine V.cond_f (V.ev_tmp rfl s38) ?_
 refine V.skip ?_
 refine V.nx (V.seq ?_)
 refine V.reg 6 [V.E (.int .u8 (n : Int)), V.E (.int .i64 (n : Int)), V.E (.int .u8 (d : Int)), V.E (.int .i64 (d : Int)), (fun v W => ∃ z51 : Fr, v = z51.v ∧ Fr.ok W z51 ∧ (z51.q = (((n : Nat) : Rat) / ((d : Nat) : Rat)))), V.Nb W47 39 #[.bool false, .slice none 0 0, .bool false, .slice none 0 0]] [5] (V.i hl (V.i hfr hb)) ?_ ?_
 ·refine V.ac ?_ (V.ac ?_ (V.ac ?_ (V.ac ?_ (V.ac ?_ (V.ac ?_ V.an)))))
  ·exact V.z1 rfl fun h => V.xm (V.eo h 2 s2)
  ·refine V.s1 rfl fun f W h => ?_
   have hw49 : IntKind.i64.wrap ((n : Int)) = (n : Int) := by exact IntWalk.i64_in _ (by omega)
   exact V.x_convert (V.ed h 0 39 rfl) ((by kernel_rfl : _ = Result.ok (.int .i64 (IntKind.i64.wrap ((n : Int)))) _).trans (by rw [hw49]))
  ·exact V.z1 rfl fun h => V.xm (V.eo h 3 s3)
  ·refine V.s1 rfl fun f W h => ?_
   have hw50 : IntKind.i64.wrap ((d : Int)) = (d : Int) := by exact IntWalk.i64_in _ (by omega)
   exact V.x_convert (V.ed h 2 41 rfl) ((by kernel_rfl : _ = Result.ok (.int .i64 (IntKind.i64.wrap ((d : Int)))) _).trans (by rw [hw50]))
  ·refine V.s2 rfl fun f W h => ?_
   refine V.call en29 (V.args2 (V.ed h 1 40 rfl) (V.ed h 3 42 rfl)) (Calls.mono (RQuick (m := n) (k := d) (by omega) (by omega) (by omega)) ?_)
   rintro e W' ⟨z51, rfl, k52, e53, hb⟩
   exact ⟨_, rfl, ⟨z51, rfl, k52, e53⟩, hb⟩
  ·exact V.sn rfl fun f W h => V.x_alloc
 have o_bel := hb.size
 have ob_hl := hl.blt
 intro f55 W56 hE57
 clear hl hfr hb
 obtain ⟨⟨hl, hfr, hb⟩, hsz⟩ := hE57.g
 obtain ⟨s0, s1, s2, s3, s8⟩ := V.e5 hE57 s0 s1 s2 s3 s8
 obtain ⟨z51, s43, r58, n59⟩ := V.eq hE57 4 43 rfl
 obtain ⟨g54, s9, b_g54, l_g54⟩ := V.eq hE57 5 9 rfl
 have m_g54 : w.heap.size ≤ g54 := Nat.le_trans o_bel l_g54
 have q_hl_g54 : 0 < l.length → (adr A).block ≠ g54 := fun h => Nat.ne_of_lt (Nat.lt_of_lt_of_le (ob_hl h) l_g54)
 clear hE57 hsz
 clear o_bel ob_hl
 refine V.t_st (k := 6) rfl (V.x_store (V.ev_tmp rfl s9) (V.ev_tmp rfl s43) (V.st_row b_g54)) b_g54 fun W60 hs b' => ?_
 replace hl := hs.ls hl q_hl_g54
 replace hfr := (fun x_0 hx_0 => hs.fr (hfr x_0 hx_0))
 replace hb := hs.bel hb m_g54
 replace r58 := hs.fr r58
 replace b_g54 := b'
 clear hs b'
 refine V.t_done rfl ?_
 have hbs := quick_sz (n := n) (d := d) (by omega) (by omega) (by omega)
 rw [← n59] at hbs
 have hf0 : 0 < z51.q := by rw [n59]; exact quick_pos (by omega) (by omega)
 have hbq := n59
 refine V.nx (V.seq ?_)
 refine V.reg 1 [V.E (.slice none 0 0)] [] (V.i hl (V.i hfr (V.i hb (V.i r58 b_g54)))) ?_ ?_
 ·refine V.ac ?_ V.an
  ·exact V.z1 rfl fun h => V.xs rfl
 intro f61 W62 hE63
 clear hl hfr hb r58 b_g54
 obtain ⟨⟨hl, hfr, hb, r58, b_g54⟩, hsz⟩ := hE63.g
 obtain ⟨s0, s1, s2, s3, s8, s9⟩ := V.e6 hE63 s0 s1 s2 s3 s8 s9
 have s10 := V.es hE63 0 10 rfl
 clear hE63 hsz
 refine V.t_done rfl (V.nx (V.seq (V.seq ?_)))
 refine V.reg 1 [V.E (.int .i64 0)] [] (V.i hl (V.i hfr (V.i hb (V.i r58 b_g54)))) ?_ ?_
 ·refine V.ac ?_ V.an
  ·exact V.z1 rfl fun h => V.xs rfl
 intro f64 W65 hE66
 clear hl hfr hb r58 b_g54
 obtain ⟨⟨hl, hfr, hb, r58, b_g54⟩, hsz⟩ := hE66.g
 obtain ⟨s0, s1, s2, s3, s8, s9, s10⟩ := V.e7 hE66 s0 s1 s2 s3 s8 s9 s10
 have s11 := V.es hE66 0 11 rfl
 clear hE66 hsz
 refine V.t_done rfl (V.nx (V.block ?_))
 have r67 : Acc W65 w.heap.size 50 6 none 0 (([] : List Cl).map Cl.cells) := Acc.nil hb.size
 have r68 : ∀ x ∈ ([] : List Cl), Fr.ok W65 x.w := by simp
 refine V.loop (fun k f W => ∃ i : Nat, ∃ ms : List Cl, ∃ A1 : Option Addr, ∃ c1 : Nat, (k = l.length - i ∧ (i ≤ l.length) ∧ (ms.length = i) ∧ (SI z51.q l ms) ∧ (∀ x ∈ ms, FOffA A1 x.w) ∧ (FOffA A1 z51)) ∧ (f 0 = .int .i64 a ∧ f 1 = .slice A l.length c ∧ f 9 = Vp g54 0 ∧ f 10 = .slice A1 ((ms.map Cl.cells).length) c1 ∧ f 11 = .int .i64 (i : Int)) ∧ (Below w.heap.size w W ∧ Ls W 6 A l.length c (l.map Cl.cells) ∧ (∀ x ∈ l, Fr.ok W x.w) ∧ Blk W g54 39 z51.cs ∧ Fr.ok W z51 ∧ Acc W w.heap.size 50 6 A1 c1 (ms.map Cl.cells) ∧ (∀ x ∈ ms, Fr.ok W x.w))) (l.length - 0) ⟨0, ([] : List Cl), none, 0, ⟨rfl, by omega, rfl, (fun j x y hx hy => by simp at hy), by simp, (fun ad e => by cases e)⟩, ⟨s0, s1, s9, (s10.trans (by simp)), (s11.trans (by simp))⟩, ⟨hb, hl, hfr, b_g54, r58, r67, r68⟩⟩ ?_
 clear hl hfr hb r58 b_g54 r67 r68 s0 s1 s2 s3 s8 s9 s10 s11
 rintro k71 f69 W70 ⟨i, ms, A1, c1, ⟨hk79, hil, hml, hSI, hoff, hob⟩, ⟨s0, s1, s9, s10, s11⟩, ⟨r72, r73, r74, r75, r76, r77, r78⟩⟩
 refine V.seq (V.seq ?_)
 refine V.reg 4 [V.E (.int .i64 (i : Int)), V.E (.slice A l.length c), V.E (.int .i64 (l.length : Int)), V.E (.bool (decide ((i : Int) < (l.length : Int))))] [] (V.i r72 (V.i r73 (V.i r74 (V.i r75 (V.i r76 (V.i r77 r78)))))) ?_ ?_
 ·refine V.ac ?_ (V.ac ?_ (V.ac ?_ (V.ac ?_ V.an)))
  ·exact V.z1 rfl fun h => V.xm (V.eo h 11 s11)
  ·exact V.z1 rfl fun h => V.xm (V.eo h 1 s1)
  ·exact V.z1 rfl fun h => V.x_len (V.ed h 1 45 rfl)
  ·exact V.z1 rfl fun h => V.xb (V.ed h 0 44 rfl) (V.ed h 2 46 rfl)
 intro f80 W81 hE82
 clear r72 r73 r74 r75 r76 r77 r78
 obtain ⟨⟨r72, r73, r74, r75, r76, r77, r78⟩, hsz⟩ := hE82.g
 obtain ⟨s0, s1, s9, s10, s11⟩ := V.e5 hE82 s0 s1 s9 s10 s11
 have s47 := V.es hE82 3 47 rfl
 clear hE82 hsz
 refine V.t_done rfl (V.nx ?_)
 cases hc83 : (decide ((i : Int) < (l.length : Int)))
 ·have s47_ : f80 47 = .bool false := s47.trans (by rw [hc83])
  refine V.cond_f (V.ev_tmp rfl s47_) ?_
  have hi : i = l.length := by have := of_decide_eq_false hc83; omega
  have hmll : ms.length = l.length := by omega
  have hSc := hSI.scaled hmll
  obtain ⟨vb, hvb⟩ : ∃ vb, vb = validL (ms.map Cl.raw) := ⟨_, rfl⟩
  have hlm : Ls W81 6 A1 ms.length c1 (ms.map Cl.cells) := by have := r77.ls; rwa [List.length_map] at this
  replace s10 : f80 10 = .slice A1 ms.length c1 := s10.trans (by rw [List.length_map])
  clear r77
  refine V.exit (V.tx (V.tx (V.bx (V.nx (V.seq (V.seq ?_))))))
  refine V.reg 3 [V.E (.slice A1 ms.length c1), V.E (.bool vb), V.E (.bool (!vb))] [] (V.i r72 (V.i r73 (V.i r74 (V.i r75 (V.i r76 (V.i r78 hlm)))))) ?_ ?_
  ·refine V.ac ?_ (V.ac ?_ (V.ac ?_ V.an))
   ·exact V.z1 rfl fun h => V.xm (V.eo h 10 s10)
   ·refine V.s2 rfl fun f W h => ?_
    refine V.call en30 (V.args1 (V.ed h 0 75 rfl)) (Calls.mono (Valid_r h.g.1.2.2.2.2.2.2 h.g.1.2.2.2.2.2.1) ?_)
    rintro e W' ⟨e84, hb⟩
    rw [← hvb] at e84
    subst e84
    exact ⟨_, rfl, rfl, hb⟩
   ·exact V.z1 rfl fun h => V.x_un (V.ed h 1 76 rfl)
  intro f85 W86 hE87
  clear r72 r73 r74 r75 r76 r78 hlm
  obtain ⟨⟨r72, r73, r74, r75, r76, r78, hlm⟩, hsz⟩ := hE87.g
  obtain ⟨s0, s1, s9, s10⟩ := V.e4 hE87 s0 s1 s9 s10
  have s77 := V.es hE87 2 77 rfl
  clear hE87 hsz
  refine V.t_done rfl (V.nx ?_)
  cases hc88 : (!vb)
  ·have s77_ : f85 77 = .bool false := s77.trans (by rw [hc88])
   refine V.cond_f (V.ev_tmp rfl s77_) ?_
   have hvt : vb = true := by cases vb <;> simp_all
   have hVm := hSI.valid hmll (Rat.le_of_lt hf0) hV (hvb.symm.trans hvt)
   have hm10 : ms.length ≤ 10 := by omega
   have hm20 : ms.length < 20 := by omega
   refine V.skip ?_
   refine V.nx (V.seq ?_)
   refine V.reg 8 [V.E (.int .i64 a), V.E (.slice A l.length c), (fun v W => ∃ g89 : Nat, ∃ t90 : Rat, ∃ ys91 : List Nat, ∃ m92 : Nat, ∃ rs93 : List Int, v = .tuple #[.slice (some ⟨g89, 0, none⟩) l.length l.length, .int .i64 0] ∧ Own W g89 3 1 (rs93.map IntC) ([]) ∧ (PartsOf a l t90 ys91 m92 rs93) ∧ (w.heap.size ≤ g89) ∧ (W86.heap.size ≤ g89)), (fun v W => ∃ g97 : Nat, ∃ t98 : Rat, ∃ ys99 : List Nat, ∃ m100 : Nat, ∃ rs101 : List Int, v = .tuple #[.slice (some ⟨g97, 0, none⟩) l.length l.length, .int .i64 0] ∧ Own W g97 3 1 (rs101.map IntC) ([]) ∧ (PartsOf a l t98 ys99 m100 rs101) ∧ (w.heap.size ≤ g97) ∧ (W86.heap.size ≤ g97)), (fun v W => ∃ g102 : Nat, ∃ t103 : Rat, ∃ ys104 : List Nat, ∃ m105 : Nat, ∃ rs106 : List Int, v = .slice (some ⟨g102, 0, none⟩) l.length l.length ∧ Own W g102 3 1 (rs106.map IntC) ([]) ∧ (PartsOf a l t103 ys104 m105 rs106) ∧ (w.heap.size ≤ g102) ∧ (W86.heap.size ≤ g102)), V.E (.int .i64 0), (fun v W => ∃ g107 : Nat, ∃ t108 : Rat, ∃ ys109 : List Nat, ∃ m110 : Nat, ∃ rs111 : List Int, v = .slice (some ⟨g107, 0, none⟩) l.length l.length ∧ Own W g107 3 1 (rs111.map IntC) ([]) ∧ (PartsOf a l t108 ys109 m110 rs111) ∧ (w.heap.size ≤ g107) ∧ (W86.heap.size ≤ g107)), V.E (.int .i64 0)] [] (V.i r72 (V.i r73 (V.i r74 (V.i r75 (V.i r76 (V.i r78 hlm)))))) ?_ ?_
   ·refine V.ac ?_ (V.ac ?_ (V.ac ?_ (V.ac ?_ (V.ac ?_ (V.ac ?_ (V.ac ?_ (V.ac ?_ V.an)))))))
    ·exact V.z1 rfl fun h => V.xm (V.eo h 0 s0)
    ·exact V.z1 rfl fun h => V.xm (V.eo h 1 s1)
    ·refine V.s2 rfl fun f W h => ?_
     refine V.call en13 (V.args2 (V.ed h 0 79 rfl) (V.ed h 1 80 rfl)) (Calls.mono (Parts_n rfl h.g.1.2.1 h.g.1.2.2.1 hV h10 h0 h1) ?_)
     rintro e W' ⟨g89, t90, ys91, m92, rs93, rfl, p94, p95, p96, hb⟩
     exact ⟨_, rfl, ⟨g89, t90, ys91, m92, rs93, rfl, p95, p94, Nat.le_trans h.g.1.1.size p96, Nat.le_trans h.g.2 p96⟩, hb⟩
    ·refine V.s2 rfl fun f W h => ?_
     obtain ⟨g89, t90, ys91, m92, rs93, a81, k2_0, p2_0, p2_1, p2_2⟩ := V.dp h 2 81 (by kernel_rfl) rfl
     exact V.v2 (.tuple #[.slice (some ⟨g89, 0, none⟩) l.length l.length, .int .i64 0]) (V.xm (V.ev_tmp rfl a81)) ⟨g89, t90, ys91, m92, rs93, rfl, k2_0, p2_0, p2_1, p2_2⟩
    ·refine V.s2 rfl fun f W h => ?_
     obtain ⟨g97, t98, ys99, m100, rs101, a78, k3_0, p3_0, p3_1, p3_2⟩ := V.dp h 3 78 (by kernel_rfl) rfl
     exact V.v2 (.slice (some ⟨g97, 0, none⟩) l.length l.length) (V.xe (V.ev_tmp rfl a78)) ⟨g97, t98, ys99, m100, rs101, rfl, k3_0, p3_0, p3_1, p3_2⟩
    ·refine V.s1 rfl fun f W h => ?_
     obtain ⟨g97, t98, ys99, m100, rs101, a78, k3_0, p3_0, p3_1, p3_2⟩ := V.dp h 3 78 (by kernel_rfl) rfl
     exact V.xe (V.ev_tmp rfl a78)
    ·refine V.s2 rfl fun f W h => ?_
     obtain ⟨g102, t103, ys104, m105, rs106, a82, k4_0, p4_0, p4_1, p4_2⟩ := V.dp h 4 82 (by kernel_rfl) rfl
     exact V.v2 (.slice (some ⟨g102, 0, none⟩) l.length l.length) (V.xs (V.ev_tmp rfl a82)) ⟨g102, t103, ys104, m105, rs106, rfl, k4_0, p4_0, p4_1, p4_2⟩
    ·exact V.z1 rfl fun h => V.xs (V.ed h 5 83 rfl)
   have o_g54 := r75.lt
   intro f112 W113 hE114
   clear r72 r73 r74 r75 r76 r78 hlm
   obtain ⟨⟨r72, r73, r74, r75, r76, r78, hlm⟩, hsz⟩ := hE114.g
   obtain ⟨s0, s1, s9, s10⟩ := V.e4 hE114 s0 s1 s9 s10
   obtain ⟨g107, t108, ys109, m110, rs111, s14, r115, n116, n117, n118⟩ := V.eq hE114 6 14 rfl
   have s15 := V.es hE114 7 15 rfl
   clear hE114 hsz
   clear o_g54
   refine V.t_done rfl (V.nx (V.seq ?_))
   refine V.reg 8 [V.E (.int .i64 a), V.E (.slice A1 ms.length c1), (fun v W => ∃ g121 : Nat, ∃ t122 : Rat, ∃ ys123 : List Nat, ∃ m124 : Nat, ∃ rs125 : List Int, v = .tuple #[.slice (some ⟨g121, 0, none⟩) ms.length ms.length, .int .i64 0] ∧ Own W g121 3 1 (rs125.map IntC) ([]) ∧ (PartsOf a ms t122 ys123 m124 rs125) ∧ (w.heap.size ≤ g121) ∧ (W113.heap.size ≤ g121)), (fun v W => ∃ g129 : Nat, ∃ t130 : Rat, ∃ ys131 : List Nat, ∃ m132 : Nat, ∃ rs133 : List Int, v = .tuple #[.slice (some ⟨g129, 0, none⟩) ms.length ms.length, .int .i64 0] ∧ Own W g129 3 1 (rs133.map IntC) ([]) ∧ (PartsOf a ms t130 ys131 m132 rs133) ∧ (w.heap.size ≤ g129) ∧ (W113.heap.size ≤ g129)), (fun v W => ∃ g134 : Nat, ∃ t135 : Rat, ∃ ys136 : List Nat, ∃ m137 : Nat, ∃ rs138 : List Int, v = .slice (some ⟨g134, 0, none⟩) ms.length ms.length ∧ Own W g134 3 1 (rs138.map IntC) ([]) ∧ (PartsOf a ms t135 ys136 m137 rs138) ∧ (w.heap.size ≤ g134) ∧ (W113.heap.size ≤ g134)), V.E (.int .i64 0), (fun v W => ∃ g139 : Nat, ∃ t140 : Rat, ∃ ys141 : List Nat, ∃ m142 : Nat, ∃ rs143 : List Int, v = .slice (some ⟨g139, 0, none⟩) ms.length ms.length ∧ Own W g139 3 1 (rs143.map IntC) ([]) ∧ (PartsOf a ms t140 ys141 m142 rs143) ∧ (w.heap.size ≤ g139) ∧ (W113.heap.size ≤ g139)), V.E (.int .i64 0)] [] (V.i r72 (V.i r73 (V.i r74 (V.i r75 (V.i r76 (V.i r78 (V.i hlm r115))))))) ?_ ?_
   ·refine V.ac ?_ (V.ac ?_ (V.ac ?_ (V.ac ?_ (V.ac ?_ (V.ac ?_ (V.ac ?_ (V.ac ?_ V.an)))))))
    ·exact V.z1 rfl fun h => V.xm (V.eo h 0 s0)
    ·exact V.z1 rfl fun h => V.xm (V.eo h 10 s10)
    ·refine V.s2 rfl fun f W h => ?_
     refine V.call en13 (V.args2 (V.ed h 0 85 rfl) (V.ed h 1 86 rfl)) (Calls.mono (Parts_n rfl h.g.1.2.2.2.2.2.2.1 h.g.1.2.2.2.2.2.1 hVm hm10 h0 h1) ?_)
     rintro e W' ⟨g121, t122, ys123, m124, rs125, rfl, p126, p127, p128, hb⟩
     exact ⟨_, rfl, ⟨g121, t122, ys123, m124, rs125, rfl, p127, p126, Nat.le_trans h.g.1.1.size p128, Nat.le_trans h.g.2 p128⟩, hb⟩
    ·refine V.s2 rfl fun f W h => ?_
     obtain ⟨g121, t122, ys123, m124, rs125, a87, k2_0, p2_0, p2_1, p2_2⟩ := V.dp h 2 87 (by kernel_rfl) rfl
     exact V.v2 (.tuple #[.slice (some ⟨g121, 0, none⟩) ms.length ms.length, .int .i64 0]) (V.xm (V.ev_tmp rfl a87)) ⟨g121, t122, ys123, m124, rs125, rfl, k2_0, p2_0, p2_1, p2_2⟩
    ·refine V.s2 rfl fun f W h => ?_
     obtain ⟨g129, t130, ys131, m132, rs133, a84, k3_0, p3_0, p3_1, p3_2⟩ := V.dp h 3 84 (by kernel_rfl) rfl
     exact V.v2 (.slice (some ⟨g129, 0, none⟩) ms.length ms.length) (V.xe (V.ev_tmp rfl a84)) ⟨g129, t130, ys131, m132, rs133, rfl, k3_0, p3_0, p3_1, p3_2⟩
    ·refine V.s1 rfl fun f W h => ?_
     obtain ⟨g129, t130, ys131, m132, rs133, a84, k3_0, p3_0, p3_1, p3_2⟩ := V.dp h 3 84 (by kernel_rfl) rfl
     exact V.xe (V.ev_tmp rfl a84)
    ·refine V.s2 rfl fun f W h => ?_
     obtain ⟨g134, t135, ys136, m137, rs138, a88, k4_0, p4_0, p4_1, p4_2⟩ := V.dp h 4 88 (by kernel_rfl) rfl
     exact V.v2 (.slice (some ⟨g134, 0, none⟩) ms.length ms.length) (V.xs (V.ev_tmp rfl a88)) ⟨g134, t135, ys136, m137, rs138, rfl, k4_0, p4_0, p4_1, p4_2⟩
    ·exact V.z1 rfl fun h => V.xs (V.ed h 5 89 rfl)
   have o_g54 := r75.lt
   have o_g107 := r115.blk.lt
   intro f144 W145 hE146
   clear r72 r73 r74 r75 r76 r78 hlm r115
   obtain ⟨⟨r72, r73, r74, r75, r76, r78, hlm, r115⟩, hsz⟩ := hE146.g
   obtain ⟨s0, s1, s9, s10, s14, s15⟩ := V.e6 hE146 s0 s1 s9 s10 s14 s15
   obtain ⟨g139, t140, ys141, m142, rs143, s16, r147, n148, n149, n150⟩ := V.eq hE146 6 16 rfl
   have s17 := V.es hE146 7 17 rfl
   clear hE146 hsz
   clear o_g54 o_g107
   refine V.t_done rfl (V.nx (V.seq ?_))
   refine V.reg 7 [V.E (.int .i64 a), V.E (.slice A l.length c), (fun v W => ∃ z154 : Fr, v = .tuple #[z154.v, .int .i64 0] ∧ Fr.ok W z154 ∧ (LevOf a l z154.q)), (fun v W => ∃ z157 : Fr, v = .tuple #[z157.v, .int .i64 0] ∧ Fr.ok W z157 ∧ (LevOf a l z157.q)), (fun v W => ∃ z158 : Fr, v = z158.v ∧ Fr.ok W z158 ∧ (LevOf a l z158.q)), V.E (.int .i64 0), V.Nb W145 39 #[.bool false, .slice none 0 0, .bool false, .slice none 0 0]] [6] (V.i r72 (V.i r73 (V.i r74 (V.i r75 (V.i r76 (V.i r78 (V.i hlm (V.i r115 r147)))))))) ?_ ?_
   ·refine V.ac ?_ (V.ac ?_ (V.ac ?_ (V.ac ?_ (V.ac ?_ (V.ac ?_ (V.ac ?_ V.an))))))
    ·exact V.z1 rfl fun h => V.xm (V.eo h 0 s0)
    ·exact V.z1 rfl fun h => V.xm (V.eo h 1 s1)
    ·refine V.s2 rfl fun f W h => ?_
     refine V.call en21 (V.args2 (V.ed h 0 91 rfl) (V.ed h 1 92 rfl)) (Calls.mono (Level_s h.g.1.2.1 h.g.1.2.2.1 hV h20 h0 h1) ?_)
     rintro e W' ⟨z154, rfl, k155, e156, hb⟩
     exact ⟨_, rfl, ⟨z154, rfl, k155, e156⟩, hb⟩
    ·refine V.s2 rfl fun f W h => ?_
     obtain ⟨z154, a93, k2_0, p2_0⟩ := V.dp h 2 93 (by kernel_rfl) rfl
     exact V.v2 (.tuple #[z154.v, .int .i64 0]) (V.xm (V.ev_tmp rfl a93)) ⟨z154, rfl, k2_0, p2_0⟩
    ·refine V.s2 rfl fun f W h => ?_
     obtain ⟨z157, a90, k3_0, p3_0⟩ := V.dp h 3 90 (by kernel_rfl) rfl
     exact V.v2 (z157.v) (V.xe (V.ev_tmp rfl a90)) ⟨z157, rfl, k3_0, p3_0⟩
    ·refine V.s1 rfl fun f W h => ?_
     obtain ⟨z157, a90, k3_0, p3_0⟩ := V.dp h 3 90 (by kernel_rfl) rfl
     exact V.xe (V.ev_tmp rfl a90)
    ·exact V.sn rfl fun f W h => V.x_alloc
   have o_g54 := r75.lt
   have o_g107 := r115.blk.lt
   have o_g139 := r147.blk.lt
   have o_bel := r72.size
   have ob_r73 := r73.blt
   have ob_hlm := hlm.blt
   intro f160 W161 hE162
   clear r72 r73 r74 r75 r76 r78 hlm r115 r147
   obtain ⟨⟨r72, r73, r74, r75, r76, r78, hlm, r115, r147⟩, hsz⟩ := hE162.g
   obtain ⟨s0, s1, s9, s10, s14, s15, s16, s17⟩ := V.e8 hE162 s0 s1 s9 s10 s14 s15 s16 s17
   obtain ⟨z158, s94, r163, n164⟩ := V.eq hE162 4 94 rfl
   have s95 := V.es hE162 5 95 rfl
   obtain ⟨g159, s18, b_g159, l_g159⟩ := V.eq hE162 6 18 rfl
   have m_g159 : w.heap.size ≤ g159 := Nat.le_trans o_bel l_g159
   have q_g54_g159 : g54 ≠ g159 := by omega
   have q_g107_g159 : g107 ≠ g159 := by omega
   have q_g139_g159 : g139 ≠ g159 := by omega
   have q_r73_g159 : 0 < l.length → (adr A).block ≠ g159 := fun h => Nat.ne_of_lt (Nat.lt_of_lt_of_le (ob_r73 h) l_g159)
   have q_hlm_g159 : 0 < ms.length → (adr A1).block ≠ g159 := fun h => Nat.ne_of_lt (Nat.lt_of_lt_of_le (ob_hlm h) l_g159)
   clear hE162 hsz
   clear o_bel o_g54 o_g107 o_g139 ob_r73 ob_hlm
   refine V.t_st (k := 7) rfl (V.x_store (V.ev_tmp rfl s18) (V.ev_tmp rfl s94) (V.st_row b_g159)) b_g159 fun W165 hs b' => ?_
   replace r72 := hs.bel r72 m_g159
   replace r73 := hs.ls r73 q_r73_g159
   replace r74 := (fun x_0 hx_0 => hs.fr (r74 x_0 hx_0))
   replace r75 := hs.blk r75 q_g54_g159
   replace r76 := hs.fr r76
   replace r78 := (fun x_0 hx_0 => hs.fr (r78 x_0 hx_0))
   replace hlm := hs.ls hlm q_hlm_g159
   replace r115 := hs.own r115 q_g107_g159
   replace r147 := hs.own r147 q_g139_g159
   replace r163 := hs.fr r163
   replace b_g159 := b'
   clear hs b'
   refine V.t_val (k := 8) (v := .int .i64 0) (t := 19) rfl rfl rfl (by kernel_rfl) trivial (V.xs (V.ev_tmp rfl s95)) ?_
   intro f166 e167 u168
   replace s0 : f166 0 = .int .i64 a := (u168 0 (by decide)).trans s0
   replace s1 : f166 1 = .slice A l.length c := (u168 1 (by decide)).trans s1
   replace s9 : f166 9 = Vp g54 0 := (u168 9 (by decide)).trans s9
   replace s10 : f166 10 = .slice A1 ms.length c1 := (u168 10 (by decide)).trans s10
   replace s14 : f166 14 = .slice (some ⟨g107, 0, none⟩) l.length l.length := (u168 14 (by decide)).trans s14
   replace s15 : f166 15 = .int .i64 0 := (u168 15 (by decide)).trans s15
   replace s16 : f166 16 = .slice (some ⟨g139, 0, none⟩) ms.length ms.length := (u168 16 (by decide)).trans s16
   replace s17 : f166 17 = .int .i64 0 := (u168 17 (by decide)).trans s17
   replace s94 : f166 94 = z158.v := (u168 94 (by decide)).trans s94
   replace s95 : f166 95 = .int .i64 0 := (u168 95 (by decide)).trans s95
   replace s18 : f166 18 = Vp g159 0 := (u168 18 (by decide)).trans s18
   have s19 := e167
   clear u168
   refine V.t_done rfl (V.nx (V.seq ?_))
   refine V.reg 7 [V.E (.int .i64 a), V.E (.slice A1 ms.length c1), (fun v W => ∃ z169 : Fr, v = .tuple #[z169.v, .int .i64 0] ∧ Fr.ok W z169 ∧ (LevOf a ms z169.q)), (fun v W => ∃ z172 : Fr, v = .tuple #[z172.v, .int .i64 0] ∧ Fr.ok W z172 ∧ (LevOf a ms z172.q)), (fun v W => ∃ z173 : Fr, v = z173.v ∧ Fr.ok W z173 ∧ (LevOf a ms z173.q)), V.E (.int .i64 0), V.Nb W165 39 #[.bool false, .slice none 0 0, .bool false, .slice none 0 0]] [6] (V.i r72 (V.i r73 (V.i r74 (V.i r75 (V.i r76 (V.i r78 (V.i hlm (V.i r115 (V.i r147 (V.i r163 b_g159)))))))))) ?_ ?_
   ·refine V.ac ?_ (V.ac ?_ (V.ac ?_ (V.ac ?_ (V.ac ?_ (V.ac ?_ (V.ac ?_ V.an))))))
    ·exact V.z1 rfl fun h => V.xm (V.eo h 0 s0)
    ·exact V.z1 rfl fun h => V.xm (V.eo h 10 s10)
    ·refine V.s2 rfl fun f W h => ?_
     refine V.call en21 (V.args2 (V.ed h 0 97 rfl) (V.ed h 1 98 rfl)) (Calls.mono (Level_s h.g.1.2.2.2.2.2.2.1 h.g.1.2.2.2.2.2.1 hVm hm20 h0 h1) ?_)
     rintro e W' ⟨z169, rfl, k170, e171, hb⟩
     exact ⟨_, rfl, ⟨z169, rfl, k170, e171⟩, hb⟩
    ·refine V.s2 rfl fun f W h => ?_
     obtain ⟨z169, a99, k2_0, p2_0⟩ := V.dp h 2 99 (by kernel_rfl) rfl
     exact V.v2 (.tuple #[z169.v, .int .i64 0]) (V.xm (V.ev_tmp rfl a99)) ⟨z169, rfl, k2_0, p2_0⟩
    ·refine V.s2 rfl fun f W h => ?_
     obtain ⟨z172, a96, k3_0, p3_0⟩ := V.dp h 3 96 (by kernel_rfl) rfl
     exact V.v2 (z172.v) (V.xe (V.ev_tmp rfl a96)) ⟨z172, rfl, k3_0, p3_0⟩
    ·refine V.s1 rfl fun f W h => ?_
     obtain ⟨z172, a96, k3_0, p3_0⟩ := V.dp h 3 96 (by kernel_rfl) rfl
     exact V.xe (V.ev_tmp rfl a96)
    ·exact V.sn rfl fun f W h => V.x_alloc
   have o_g54 := r75.lt
   have o_g107 := r115.blk.lt
   have o_g139 := r147.blk.lt
   have o_g159 := b_g159.lt
   have o_bel := r72.size
   have ob_r73 := r73.blt
   have ob_hlm := hlm.blt
   intro f175 W176 hE177
   clear r72 r73 r74 r75 r76 r78 hlm r115 r147 r163 b_g159
   obtain ⟨⟨r72, r73, r74, r75, r76, r78, hlm, r115, r147, r163, b_g159⟩, hsz⟩ := hE177.g
   obtain ⟨s0, s1, s9, s14, s15, s16, s17, s18, s19⟩ := V.e9 hE177 s0 s1 s9 s14 s15 s16 s17 s18 s19
   obtain ⟨z173, s100, r178, n179⟩ := V.eq hE177 4 100 rfl
   have s101 := V.es hE177 5 101 rfl
   obtain ⟨g174, s20, b_g174, l_g174⟩ := V.eq hE177 6 20 rfl
   have m_g174 : w.heap.size ≤ g174 := Nat.le_trans o_bel l_g174
   have q_g54_g174 : g54 ≠ g174 := by omega
   have q_g107_g174 : g107 ≠ g174 := by omega
   have q_g139_g174 : g139 ≠ g174 := by omega
   have q_g159_g174 : g159 ≠ g174 := by omega
   have q_r73_g174 : 0 < l.length → (adr A).block ≠ g174 := fun h => Nat.ne_of_lt (Nat.lt_of_lt_of_le (ob_r73 h) l_g174)
   have q_hlm_g174 : 0 < ms.length → (adr A1).block ≠ g174 := fun h => Nat.ne_of_lt (Nat.lt_of_lt_of_le (ob_hlm h) l_g174)
   clear hE177 hsz
   clear o_bel o_g54 o_g107 o_g139 o_g159 ob_r73 ob_hlm
   refine V.t_st (k := 7) rfl (V.x_store (V.ev_tmp rfl s20) (V.ev_tmp rfl s100) (V.st_row b_g174)) b_g174 fun W180 hs b' => ?_
   replace r72 := hs.bel r72 m_g174
   replace r73 := hs.ls r73 q_r73_g174
   replace r74 := (fun x_0 hx_0 => hs.fr (r74 x_0 hx_0))
   replace r75 := hs.blk r75 q_g54_g174
   replace r76 := hs.fr r76
   replace r78 := (fun x_0 hx_0 => hs.fr (r78 x_0 hx_0))
   replace hlm := hs.ls hlm q_hlm_g174
   replace r115 := hs.own r115 q_g107_g174
   replace r147 := hs.own r147 q_g139_g174
   replace r163 := hs.fr r163
   replace b_g159 := hs.blk b_g159 q_g159_g174
   replace r178 := hs.fr r178
   replace b_g174 := b'
   clear hs b'
   refine V.t_val (k := 8) (v := .int .i64 0) (t := 21) rfl rfl rfl (by kernel_rfl) trivial (V.xs (V.ev_tmp rfl s101)) ?_
   intro f181 e182 u183
   replace s0 : f181 0 = .int .i64 a := (u183 0 (by decide)).trans s0
   replace s1 : f181 1 = .slice A l.length c := (u183 1 (by decide)).trans s1
   replace s9 : f181 9 = Vp g54 0 := (u183 9 (by decide)).trans s9
   replace s14 : f181 14 = .slice (some ⟨g107, 0, none⟩) l.length l.length := (u183 14 (by decide)).trans s14
   replace s15 : f181 15 = .int .i64 0 := (u183 15 (by decide)).trans s15
   replace s16 : f181 16 = .slice (some ⟨g139, 0, none⟩) ms.length ms.length := (u183 16 (by decide)).trans s16
   replace s17 : f181 17 = .int .i64 0 := (u183 17 (by decide)).trans s17
   replace s18 : f181 18 = Vp g159 0 := (u183 18 (by decide)).trans s18
   replace s19 : f181 19 = .int .i64 0 := (u183 19 (by decide)).trans s19
   replace s100 : f181 100 = z173.v := (u183 100 (by decide)).trans s100
   replace s101 : f181 101 = .int .i64 0 := (u183 101 (by decide)).trans s101
   replace s20 : f181 20 = Vp g174 0 := (u183 20 (by decide)).trans s20
   have s21 := e182
   clear u183
   refine V.t_done rfl ?_
   have hum := n179.sz h1 hVm.g hm20
   have hback : z173.q * z51.q = z158.q := ((hSc.lev hf0 (n179.is hVm.g h0)).uniq (n164.is hgood h0) hgood)
   refine V.nx (V.seq (V.seq ?_))
   refine V.reg 28 [V.E (.int .i64 0), V.E (.bool false), V.E (.bool false), (V.Gd (!false) (V.E (.int .i64 0))), (V.Gd (!false) (V.E (.bool false))), V.E (.bool false), V.E (.bool false), (V.Gd (!false) (V.E (.int .i64 0))), (V.Gd (!false) (V.E (.bool false))), V.E (.bool false), V.E (.bool false), (V.Gd (!false) (V.E (.int .i64 0))), (V.Gd (!false) (V.E (.bool false))), V.E (.bool false), V.E (.bool false), (V.Gd (!false) (V.E (.slice (some ⟨g107, 0, none⟩) l.length l.length))), (V.Gd (!false) (V.E (.int .i64 (l.length : Int)))), (V.Gd (!false) (V.E (.slice A l.length c))), (V.Gd (!false) (V.E (.int .i64 (l.length : Int)))), (V.Gd (!false) (V.E (.bool false))), V.E (.bool false), V.E (.bool false), (V.Gd (!false) (V.E (.slice (some ⟨g139, 0, none⟩) ms.length ms.length))), (V.Gd (!false) (V.E (.int .i64 (ms.length : Int)))), (V.Gd (!false) (V.E (.slice A l.length c))), (V.Gd (!false) (V.E (.int .i64 (l.length : Int)))), (V.Gd (!false) (V.E (.bool false))), V.E (.bool false)] [] (V.i r72 (V.i r73 (V.i r74 (V.i r75 (V.i r76 (V.i r78 (V.i hlm (V.i r115 (V.i r147 (V.i r163 (V.i b_g159 (V.i r178 b_g174)))))))))))) ?_ ?_
   ·refine V.ac ?_ (V.ac ?_ (V.ac ?_ (V.ac ?_ (V.ac ?_ (V.ac ?_ (V.ac ?_ (V.ac ?_ (V.ac ?_ (V.ac ?_ (V.ac ?_ (V.ac ?_ (V.ac ?_ (V.ac ?_ (V.ac ?_ (V.ac ?_ (V.ac ?_ (V.ac ?_ (V.ac ?_ (V.ac ?_ (V.ac ?_ (V.ac ?_ (V.ac ?_ (V.ac ?_ (V.ac ?_ (V.ac ?_ (V.ac ?_ (V.ac ?_ V.an)))))))))))))))))))))))))))
    ·exact V.z1 rfl fun h => V.xm (V.eo h 15 s15)
    ·exact V.z1 rfl fun h => V.xb (V.ed h 0 102 rfl) rfl
    ·exact V.z1 rfl fun h => V.xm (V.ed h 1 103 rfl)
    ·exact V.gf 2 104 rfl rfl fun hp f W h => V.v1 (V.xm (V.eo h 17 s17))
    ·exact V.gf 2 104 rfl rfl fun hp f W h => V.v1 (V.xb (V.eg h 3 105 rfl hp) rfl)
    ·refine V.s1 rfl fun f W h => ?_
     have d106 := V.dp h 4 106 (by kernel_rfl) rfl
     exact V.x_pick_f (V.ed h 2 104 rfl) (V.ev_tmp rfl (V.gd_on d106 rfl))
    ·exact V.z1 rfl fun h => V.xm (V.ed h 5 107 rfl)
    ·exact V.gf 6 108 rfl rfl fun hp f W h => V.v1 (V.xm (V.eo h 19 s19))
    ·exact V.gf 6 108 rfl rfl fun hp f W h => V.v1 (V.xb (V.eg h 7 109 rfl hp) rfl)
    ·refine V.s1 rfl fun f W h => ?_
     have d110 := V.dp h 8 110 (by kernel_rfl) rfl
     exact V.x_pick_f (V.ed h 6 108 rfl) (V.ev_tmp rfl (V.gd_on d110 rfl))
    ·exact V.z1 rfl fun h => V.xm (V.ed h 9 111 rfl)
    ·exact V.gf 10 112 rfl rfl fun hp f W h => V.v1 (V.xm (V.eo h 21 s21))
    ·exact V.gf 10 112 rfl rfl fun hp f W h => V.v1 (V.xb (V.eg h 11 113 rfl hp) rfl)
    ·refine V.s1 rfl fun f W h => ?_
     have d114 := V.dp h 12 114 (by kernel_rfl) rfl
     exact V.x_pick_f (V.ed h 10 112 rfl) (V.ev_tmp rfl (V.gd_on d114 rfl))
    ·exact V.z1 rfl fun h => V.xm (V.ed h 13 115 rfl)
    ·exact V.gf 14 116 rfl rfl fun hp f W h => V.v1 (V.xm (V.eo h 14 s14))
    ·exact V.gf 14 116 rfl rfl fun hp f W h => V.v1 (V.x_len (V.eg h 15 117 rfl hp))
    ·exact V.gf 14 116 rfl rfl fun hp f W h => V.v1 (V.xm (V.eo h 1 s1))
    ·exact V.gf 14 116 rfl rfl fun hp f W h => V.v1 (V.x_len (V.eg h 17 119 rfl hp))
    ·exact V.gf 14 116 rfl rfl fun hp f W h => V.v1 (V.xb (V.eg h 16 118 rfl hp) (V.eg h 18 120 rfl hp) ((by kernel_rfl : _ = Result.ok (.bool ((l.length : Int) != (l.length : Int))) _).trans (by rw [bne_self_eq_false])))
    ·refine V.s1 rfl fun f W h => ?_
     have d121 := V.dp h 19 121 (by kernel_rfl) rfl
     exact V.x_pick_f (V.ed h 14 116 rfl) (V.ev_tmp rfl (V.gd_on d121 rfl))
    ·exact V.z1 rfl fun h => V.xm (V.ed h 20 122 rfl)
    ·exact V.gf 21 123 rfl rfl fun hp f W h => V.v1 (V.xm (V.eo h 16 s16))
    ·exact V.gf 21 123 rfl rfl fun hp f W h => V.v1 (V.x_len (V.eg h 22 124 rfl hp))
    ·exact V.gf 21 123 rfl rfl fun hp f W h => V.v1 (V.xm (V.eo h 1 s1))
    ·exact V.gf 21 123 rfl rfl fun hp f W h => V.v1 (V.x_len (V.eg h 24 126 rfl hp))
    ·exact V.gf 21 123 rfl rfl fun hp f W h => V.v1 (V.xb (V.eg h 23 125 rfl hp) (V.eg h 25 127 rfl hp) ((by kernel_rfl : _ = Result.ok (.bool (((ms.length : Int) != (l.length : Int)))) _).trans (by rw [show (((ms.length : Int) != (l.length : Int))) = false from (by rw [hmll, bne_self_eq_false])])))
    ·refine V.s1 rfl fun f W h => ?_
     have d128 := V.dp h 26 128 (by kernel_rfl) rfl
     exact V.x_pick_f (V.ed h 21 123 rfl) (V.ev_tmp rfl (V.gd_on d128 rfl))
   intro f184 W185 hE186
   clear r72 r73 r74 r75 r76 r78 hlm r115 r147 r163 b_g159 r178 b_g174
   obtain ⟨⟨r72, r73, r74, r75, r76, r78, hlm, r115, r147, r163, b_g159, r178, b_g174⟩, hsz⟩ := hE186.g
   obtain ⟨s0, s1, s9, s14, s16, s18, s20⟩ := V.e7 hE186 s0 s1 s9 s14 s16 s18 s20
   have s129 := V.es hE186 27 129 rfl
   clear hE186 hsz
   refine V.t_done rfl (V.nx ?_)
   refine V.cond_f (V.ev_tmp rfl s129) ?_
   refine V.skip ?_
   refine V.nx (V.seq (V.seq ?_))
   refine V.reg 1 [V.E (.int .i64 0)] [] (V.i r72 (V.i r73 (V.i r74 (V.i r75 (V.i r76 (V.i r78 (V.i hlm (V.i r115 (V.i r147 (V.i r163 (V.i b_g159 (V.i r178 b_g174)))))))))))) ?_ ?_
   ·refine V.ac ?_ V.an
    ·exact V.z1 rfl fun h => V.xs rfl
   intro f187 W188 hE189
   clear r72 r73 r74 r75 r76 r78 hlm r115 r147 r163 b_g159 r178 b_g174
   obtain ⟨⟨r72, r73, r74, r75, r76, r78, hlm, r115, r147, r163, b_g159, r178, b_g174⟩, hsz⟩ := hE189.g
   obtain ⟨s0, s1, s9, s14, s16, s18, s20⟩ := V.e7 hE189 s0 s1 s9 s14 s16 s18 s20
   have s22 := V.es hE189 0 22 rfl
   clear hE189 hsz
   refine V.t_done rfl (V.nx (V.block ?_))
   have hrr := n116.scaled n148 hSc hf0 hgood
   refine V.loop (fun k f W => ∃ i3 : Nat, (k = l.length - i3 ∧ (i3 ≤ l.length)) ∧ (f 1 = .slice A l.length c ∧ f 9 = Vp g54 0 ∧ f 14 = .slice (some ⟨g107, 0, none⟩) l.length l.length ∧ f 16 = .slice (some ⟨g139, 0, none⟩) ms.length ms.length ∧ f 18 = Vp g159 0 ∧ f 20 = Vp g174 0 ∧ f 22 = .int .i64 (i3 : Int)) ∧ (Below w.heap.size w W ∧ Ls W 6 A l.length c (l.map Cl.cells) ∧ Own W g107 3 1 (rs111.map IntC) ([]) ∧ Own W g139 3 1 (rs143.map IntC) ([]) ∧ Blk W g54 39 z51.cs ∧ Fr.ok W z51 ∧ Blk W g159 39 z158.cs ∧ Fr.ok W z158 ∧ Blk W g174 39 z173.cs ∧ Fr.ok W z173)) (l.length - 0) ⟨0, ⟨rfl, by omega⟩, ⟨s1, s9, s14, s16, s18, s20, (s22.trans (by simp))⟩, ⟨r72, r73, r115, r147, r75, r76, b_g159, r163, b_g174, r178⟩⟩ ?_
   clear r72 r73 r74 r75 r76 r78 hlm r115 r147 r163 b_g159 r178 b_g174 s0 s1 s9 s14 s16 s18 s20 s22
   rintro k192 f190 W191 ⟨i3, ⟨hk203, hil3⟩, ⟨s1, s9, s14, s16, s18, s20, s22⟩, ⟨r193, r194, r195, r196, r197, r198, r199, r200, r201, r202⟩⟩
   refine V.seq (V.seq ?_)
   refine V.reg 4 [V.E (.int .i64 (i3 : Int)), V.E (.slice A l.length c), V.E (.int .i64 (l.length : Int)), V.E (.bool (decide ((i3 : Int) < (l.length : Int))))] [] (V.i r193 (V.i r194 (V.i r195 (V.i r196 (V.i r197 (V.i r198 (V.i r199 (V.i r200 (V.i r201 r202))))))))) ?_ ?_
   ·refine V.ac ?_ (V.ac ?_ (V.ac ?_ (V.ac ?_ V.an)))
    ·exact V.z1 rfl fun h => V.xm (V.eo h 22 s22)
    ·exact V.z1 rfl fun h => V.xm (V.eo h 1 s1)
    ·exact V.z1 rfl fun h => V.x_len (V.ed h 1 131 rfl)
    ·exact V.z1 rfl fun h => V.xb (V.ed h 0 130 rfl) (V.ed h 2 132 rfl)
   intro f204 W205 hE206
   clear r193 r194 r195 r196 r197 r198 r199 r200 r201 r202
   obtain ⟨⟨r193, r194, r195, r196, r197, r198, r199, r200, r201, r202⟩, hsz⟩ := hE206.g
   obtain ⟨s1, s9, s14, s16, s18, s20, s22⟩ := V.e7 hE206 s1 s9 s14 s16 s18 s20 s22
   have s133 := V.es hE206 3 133 rfl
   clear hE206 hsz
   refine V.t_done rfl (V.nx ?_)
   cases hc207 : (decide ((i3 : Int) < (l.length : Int)))
   ·have s133_ : f204 133 = .bool false := s133.trans (by rw [hc207])
    refine V.cond_f (V.ev_tmp rfl s133_) ?_
    refine V.exit (V.tx (V.tx (V.bx (V.nx (V.seq ?_)))))
    refine V.reg 7 [V.E (z173.v), V.E (z51.v), (fun v W => ∃ z208 : Fr, v = .tuple #[z208.v, .int .i64 0] ∧ Fr.ok W z208 ∧ (z208.q = (z173.q * z51.q)) ∧ (∀ g, g < W205.heap.size → Fr.off g z208)), (fun v W => ∃ z212 : Fr, v = .tuple #[z212.v, .int .i64 0] ∧ Fr.ok W z212 ∧ (z212.q = (z173.q * z51.q)) ∧ (∀ g, g < W205.heap.size → Fr.off g z212)), (fun v W => ∃ z213 : Fr, v = z213.v ∧ Fr.ok W z213 ∧ (z213.q = (z173.q * z51.q)) ∧ (∀ g, g < W205.heap.size → Fr.off g z213)), V.E (.int .i64 0), V.Nb W205 39 #[.bool false, .slice none 0 0, .bool false, .slice none 0 0]] [6] (V.i r193 (V.i r194 (V.i r195 (V.i r196 (V.i r197 (V.i r198 (V.i r199 (V.i r200 (V.i r201 r202))))))))) ?_ ?_
    ·refine V.ac ?_ (V.ac ?_ (V.ac ?_ (V.ac ?_ (V.ac ?_ (V.ac ?_ (V.ac ?_ V.an))))))
     ·exact V.z1 rfl fun h => V.xl (V.eo h 20 s20) (V.lr h.g.1.2.2.2.2.2.2.2.2.1 Tryz.underlying39)
     ·exact V.z1 rfl fun h => V.xl (V.eo h 9 s9) (V.lr h.g.1.2.2.2.2.1 Tryz.underlying39)
     ·refine V.s2 rfl fun f W h => ?_
      refine V.call en28 (V.args2 (V.ed h 0 146 rfl) (V.ed h 1 147 rfl)) (Calls.mono (Mul_f h.g.1.2.2.2.2.2.2.2.2.2 h.g.1.2.2.2.2.2.1 (hum.mono (by decide)) (hbs.mono (by decide)) ((hum.mul hbs).mono (by decide))) ?_)
      rintro e W' ⟨z208, rfl, k209, e210, o211, hb⟩
      exact ⟨_, rfl, ⟨z208, rfl, k209, e210, fun g hg => o211 g (Nat.lt_of_lt_of_le hg h.g.2)⟩, hb⟩
     ·refine V.s2 rfl fun f W h => ?_
      obtain ⟨z208, a148, k2_0, p2_0, p2_1⟩ := V.dp h 2 148 (by kernel_rfl) rfl
      exact V.v2 (.tuple #[z208.v, .int .i64 0]) (V.xm (V.ev_tmp rfl a148)) ⟨z208, rfl, k2_0, p2_0, p2_1⟩
     ·refine V.s2 rfl fun f W h => ?_
      obtain ⟨z212, a145, k3_0, p3_0, p3_1⟩ := V.dp h 3 145 (by kernel_rfl) rfl
      exact V.v2 (z212.v) (V.xe (V.ev_tmp rfl a145)) ⟨z212, rfl, k3_0, p3_0, p3_1⟩
     ·refine V.s1 rfl fun f W h => ?_
      obtain ⟨z212, a145, k3_0, p3_0, p3_1⟩ := V.dp h 3 145 (by kernel_rfl) rfl
      exact V.xe (V.ev_tmp rfl a145)
     ·exact V.sn rfl fun f W h => V.x_alloc
    have o_g54 := r197.lt
    have o_g107 := r195.blk.lt
    have o_g139 := r196.blk.lt
    have o_g159 := r199.lt
    have o_g174 := r201.lt
    have o_bel := r193.size
    have ob_r194 := r194.blt
    intro f215 W216 hE217
    clear r193 r194 r195 r196 r197 r198 r199 r200 r201 r202
    obtain ⟨⟨r193, r194, r195, r196, r197, r198, r199, r200, r201, r202⟩, hsz⟩ := hE217.g
    obtain ⟨s1, s18⟩ := V.e2 hE217 s1 s18
    obtain ⟨z213, s149, r218, n219, n220⟩ := V.eq hE217 4 149 rfl
    have s150 := V.es hE217 5 150 rfl
    obtain ⟨g214, s23, b_g214, l_g214⟩ := V.eq hE217 6 23 rfl
    have m_g214 : w.heap.size ≤ g214 := Nat.le_trans o_bel l_g214
    have q_g54_g214 : g54 ≠ g214 := by omega
    have q_g107_g214 : g107 ≠ g214 := by omega
    have q_g139_g214 : g139 ≠ g214 := by omega
    have q_g159_g214 : g159 ≠ g214 := by omega
    have q_g174_g214 : g174 ≠ g214 := by omega
    have q_r194_g214 : 0 < l.length → (adr A).block ≠ g214 := fun h => Nat.ne_of_lt (Nat.lt_of_lt_of_le (ob_r194 h) l_g214)
    clear hE217 hsz
    clear o_bel o_g54 o_g107 o_g139 o_g159 o_g174 ob_r194
    refine V.t_st (k := 7) rfl (V.x_store (V.ev_tmp rfl s23) (V.ev_tmp rfl s149) (V.st_row b_g214)) b_g214 fun W221 hs b' => ?_
    replace r193 := hs.bel r193 m_g214
    replace r194 := hs.ls r194 q_r194_g214
    replace r195 := hs.own r195 q_g107_g214
    replace r196 := hs.own r196 q_g139_g214
    replace r197 := hs.blk r197 q_g54_g214
    replace r198 := hs.fr r198
    replace r199 := hs.blk r199 q_g159_g214
    replace r200 := hs.fr r200
    replace r201 := hs.blk r201 q_g174_g214
    replace r202 := hs.fr r202
    replace r218 := hs.fr r218
    replace b_g214 := b'
    clear hs b'
    refine V.t_val (k := 8) (v := .int .i64 0) (t := 24) rfl rfl rfl (by kernel_rfl) trivial (V.xs (V.ev_tmp rfl s150)) ?_
    intro f222 e223 u224
    replace s1 : f222 1 = .slice A l.length c := (u224 1 (by decide)).trans s1
    replace s18 : f222 18 = Vp g159 0 := (u224 18 (by decide)).trans s18
    replace s149 : f222 149 = z213.v := (u224 149 (by decide)).trans s149
    replace s150 : f222 150 = .int .i64 0 := (u224 150 (by decide)).trans s150
    replace s23 : f222 23 = Vp g214 0 := (u224 23 (by decide)).trans s23
    have s24 := e223
    clear u224
    refine V.t_done rfl (V.nx (V.seq ?_))
    refine V.reg 8 [V.E (.int .i64 0), V.E (.bool true), V.E (.bool true), (V.Gd true (V.E (z213.v))), (V.Gd true (V.E (z158.v))), (V.Gd true (V.E (.bool true))), V.E (.bool true), V.E (.bool true)] [] (V.i r193 (V.i r194 (V.i r195 (V.i r196 (V.i r197 (V.i r198 (V.i r199 (V.i r200 (V.i r201 (V.i r202 (V.i r218 b_g214))))))))))) ?_ ?_
    ·refine V.ac ?_ (V.ac ?_ (V.ac ?_ (V.ac ?_ (V.ac ?_ (V.ac ?_ (V.ac ?_ (V.ac ?_ V.an)))))))
     ·exact V.z1 rfl fun h => V.xm (V.eo h 24 s24)
     ·exact V.z1 rfl fun h => V.xb (V.ed h 0 151 rfl) rfl
     ·exact V.z1 rfl fun h => V.xm (V.ed h 1 152 rfl)
     ·exact V.gt 2 153 rfl rfl fun hp f W h => V.v1 (V.xl (V.eo h 23 s23) (V.lr h.g.1.2.2.2.2.2.2.2.2.2.2.2 Tryz.underlying39))
     ·exact V.gt 2 153 rfl rfl fun hp f W h => V.v1 (V.xl (V.eo h 18 s18) (V.lr h.g.1.2.2.2.2.2.2.1 Tryz.underlying39))
     ·refine V.gt 2 153 rfl rfl fun hp f W h => ?_
      refine V.call en26 (V.args2 (V.eg h 3 154 rfl hp) (V.eg h 4 155 rfl hp)) (Calls.mono (Same_s h.g.1.2.2.2.2.2.2.2.2.2.2.1 h.g.1.2.2.2.2.2.2.2.1) ?_)
      rintro e W' ⟨e225, hb⟩
      rw [decide_eq_true (n219.trans hback)] at e225
      subst e225
      exact ⟨_, rfl, rfl, hb⟩
     ·refine V.s1 rfl fun f W h => ?_
      have d156 := V.dp h 5 156 (by kernel_rfl) rfl
      exact V.x_pick_t (V.ed h 2 153 rfl) (V.ev_tmp rfl (V.gd_on d156 rfl))
     ·exact V.z1 rfl fun h => V.xs (V.ed h 6 157 rfl)
    intro f226 W227 hE228
    clear r193 r194 r195 r196 r197 r198 r199 r200 r201 r202 r218 b_g214
    obtain ⟨⟨r193, r194, r195, r196, r197, r198, r199, r200, r201, r202, r218, b_g214⟩, hsz⟩ := hE228.g
    replace s1 := V.e1 hE228 s1
    have s8 := V.es hE228 7 8 rfl
    clear hE228 hsz
    refine V.t_done rfl (V.nx (V.ret ?_))
    refine V.leave_any (.inl rfl) (V.res_tmp rfl rfl s8) ?_
    exact ⟨rfl, r193⟩
   ·have s133_ : f204 133 = .bool true := s133.trans (by rw [hc207])
    refine V.cond_t (V.ev_tmp rfl s133_) ?_
    have hi3 : i3 < l.length := by have := of_decide_eq_true hc207; omega
    obtain ⟨p, mp, ep, ep_⟩ := V.at_map IntC (l := rs111) (i := i3) (by rw [n116.len]; exact hi3)
    have eq_ : (rs143.map IntC)[i3]? = some (IntC p) := by rw [← hrr]; exact ep_
    refine V.skip ?_
    refine V.nx (V.seq (V.block (V.seq ?_)))
    refine V.reg 9 [V.E (.slice (some ⟨g107, 0, none⟩) l.length l.length), V.E (.int .i64 (i3 : Int)), V.E (.pointer (some ((adr (some ⟨g107, 0, none⟩)).add (i3 * 1 + 0)))), V.E (.int .i64 p), V.E (.slice (some ⟨g139, 0, none⟩) ms.length ms.length), V.E (.int .i64 (i3 : Int)), V.E (.pointer (some ((adr (some ⟨g139, 0, none⟩)).add (i3 * 1 + 0)))), V.E (.int .i64 p), V.E (.bool false)] [] (V.i r193 (V.i r194 (V.i r195 (V.i r196 (V.i r197 (V.i r198 (V.i r199 (V.i r200 (V.i r201 r202))))))))) ?_ ?_
    ·refine V.ac ?_ (V.ac ?_ (V.ac ?_ (V.ac ?_ (V.ac ?_ (V.ac ?_ (V.ac ?_ (V.ac ?_ (V.ac ?_ V.an))))))))
     ·exact V.z1 rfl fun h => V.xm (V.eo h 14 s14)
     ·exact V.z1 rfl fun h => V.xm (V.eo h 22 s22)
     ·exact V.z1 rfl fun h => V.xi (i := i3) (Own.lsn (n := l.length) (c := l.length) h.g.1.2.2.1 ⟨by rw [List.length_map, n116.len], Nat.le_refl _, by omega⟩) ep_ (V.ed h 0 136 rfl) (V.ed h 1 137 rfl)
     ·exact V.z1 rfl fun h => V.xl (V.ed h 2 138 rfl) (V.ld_ls1 (i := i3) (o := 0) (Own.lsn (n := l.length) (c := l.length) h.g.1.2.2.1 ⟨by rw [List.length_map, n116.len], Nat.le_refl _, by omega⟩) ep_ rfl)
     ·exact V.z1 rfl fun h => V.xm (V.eo h 16 s16)
     ·exact V.z1 rfl fun h => V.xm (V.eo h 22 s22)
     ·exact V.z1 rfl fun h => V.xi (i := i3) (Own.lsn (n := ms.length) (c := ms.length) h.g.1.2.2.2.1 ⟨by rw [List.length_map, n148.len], Nat.le_refl _, by omega⟩) eq_ (V.ed h 4 140 rfl) (V.ed h 5 141 rfl)
     ·exact V.z1 rfl fun h => V.xl (V.ed h 6 142 rfl) (V.ld_ls1 (i := i3) (o := 0) (Own.lsn (n := ms.length) (c := ms.length) h.g.1.2.2.2.1 ⟨by rw [List.length_map, n148.len], Nat.le_refl _, by omega⟩) eq_ rfl)
     ·exact V.z1 rfl fun h => V.xb (V.ed h 3 139 rfl) (V.ed h 7 143 rfl) ((by kernel_rfl : _ = Result.ok (.bool (p != p)) _).trans (by rw [bne_self_eq_false]))
    intro f229 W230 hE231
    clear r193 r194 r195 r196 r197 r198 r199 r200 r201 r202
    obtain ⟨⟨r193, r194, r195, r196, r197, r198, r199, r200, r201, r202⟩, hsz⟩ := hE231.g
    obtain ⟨s1, s9, s14, s16, s18, s20, s22⟩ := V.e7 hE231 s1 s9 s14 s16 s18 s20 s22
    have s144 := V.es hE231 8 144 rfl
    clear hE231 hsz
    refine V.t_done rfl (V.nx ?_)
    refine V.cond_f (V.ev_tmp rfl s144) ?_
    refine V.skip ?_
    refine V.bn (V.nx ?_)
    refine V.reg 3 [V.E (.int .i64 (i3 : Int)), V.E (.int .i64 ((i3 : Int) + 1)), V.E (.int .i64 ((i3 : Int) + 1))] [] (V.i r193 (V.i r194 (V.i r195 (V.i r196 (V.i r197 (V.i r198 (V.i r199 (V.i r200 (V.i r201 r202))))))))) ?_ ?_
    ·refine V.ac ?_ (V.ac ?_ (V.ac ?_ V.an))
     ·exact V.z1 rfl fun h => V.xm (V.eo h 22 s22)
     ·refine V.s1 rfl fun f W h => ?_
      have hw232 : IntKind.i64.wrap ((i3 : Int) + 1) = (i3 : Int) + 1 := by exact IntWalk.i64_in _ (by omega)
      exact V.xb (V.ed h 0 134 rfl) rfl ((by kernel_rfl : _ = Result.ok (.int .i64 (IntKind.i64.wrap ((i3 : Int) + 1))) _).trans (by rw [hw232]))
     ·exact V.z1 rfl fun h => V.xs (V.ed h 1 135 rfl)
    intro f233 W234 hE235
    clear r193 r194 r195 r196 r197 r198 r199 r200 r201 r202
    obtain ⟨⟨r193, r194, r195, r196, r197, r198, r199, r200, r201, r202⟩, hsz⟩ := hE235.g
    obtain ⟨s1, s9, s14, s16, s18, s20⟩ := V.e6 hE235 s1 s9 s14 s16 s18 s20
    have s22 := V.es hE235 2 22 rfl
    clear hE235 hsz
    refine V.t_done rfl ?_
    refine V.handed (l.length - (i3 + 1)) (by have := hk203; omega) ⟨(i3 + 1), ⟨rfl, by omega⟩, ⟨s1, s9, s14, s16, s18, s20, (s22.trans (by simp))⟩, ⟨r193, r194, r195, r196, r197, r198, r199, r200, r201, r202⟩⟩
  ·have s77_ : f85 77 = .bool true := s77.trans (by rw [hc88])
   refine V.cond_t (V.ev_tmp rfl s77_) ?_
   refine V.seq ?_
   refine V.reg 1 [V.E (.bool true)] [] (V.i r72 (V.i r73 (V.i r74 (V.i r75 (V.i r76 (V.i r78 hlm)))))) ?_ ?_
   ·refine V.ac ?_ V.an
    ·exact V.z1 rfl fun h => V.xs rfl
   intro f236 W237 hE238
   clear r72 r73 r74 r75 r76 r78 hlm
   obtain ⟨⟨r72, r73, r74, r75, r76, r78, hlm⟩, hsz⟩ := hE238.g
   obtain ⟨s0, s1, s9, s10⟩ := V.e4 hE238 s0 s1 s9 s10
   have s8 := V.es hE238 0 8 rfl
   clear hE238 hsz
   refine V.t_done rfl (V.nx (V.ret (V.tr ?_)))
   refine V.leave_any (.inl rfl) (V.res_tmp rfl rfl s8) ?_
   exact ⟨rfl, r72⟩
 ·have s47_ : f80 47 = .bool true := s47.trans (by rw [hc83])
  refine V.cond_t (V.ev_tmp rfl s47_) ?_
  have hi : i < l.length := by have := of_decide_eq_true hc83; omega
  obtain ⟨xc, mx, ex, ex_⟩ := V.at_map Cl.cells (l := l) (i := i) hi
  have gx := hgood xc mx
  have fx := r74 xc mx
  have hab := r77.blt
  refine V.skip ?_
  refine V.nx (V.seq (V.block (V.seq ?_)))
  refine V.regF 11 [V.E (.slice A l.length c), V.E (.int .i64 (i : Int)), V.E (.pointer (some ((adr A).add (i * 6 + 0)))), V.E (.pointer (some ((adr A).add (i * 6 + 1)))), V.E (xc.w.v), V.E (z51.v), (fun v W => ∃ z239 : Fr, v = .tuple #[z239.v, .int .i64 0] ∧ Fr.ok W z239 ∧ (z239.q = (xc.w.q * z51.q)) ∧ (∀ g, g < W81.heap.size → Fr.off g z239)), (fun v W => ∃ z243 : Fr, v = .tuple #[z243.v, .int .i64 0] ∧ Fr.ok W z243 ∧ (z243.q = (xc.w.q * z51.q)) ∧ (∀ g, g < W81.heap.size → Fr.off g z243)), (fun v W => ∃ z244 : Fr, v = z244.v ∧ Fr.ok W z244 ∧ (z244.q = (xc.w.q * z51.q)) ∧ (∀ g, g < W81.heap.size → Fr.off g z244)), V.E (.int .i64 0), V.Nb W81 39 #[.bool false, .slice none 0 0, .bool false, .slice none 0 0]] [10] (V.i r72 (V.i r73 (V.i r74 (V.i r75 (V.i r76 (V.i r77 (V.i r78 fx))))))) [9] (fun _ => True) (fun _ _ => trivial) ?_ ?_ ?_
  ·refine V.ac ?_ (V.ac ?_ (V.ac ?_ (V.ac ?_ (V.ac ?_ (V.ac ?_ (V.ac ?_ (V.ac ?_ (V.ac ?_ (V.ac ?_ (V.ac ?_ V.an))))))))))
   ·exact V.z1 rfl fun h => V.xm (V.eo h 1 s1)
   ·exact V.z1 rfl fun h => V.xm (V.eo h 11 s11)
   ·exact V.z1 rfl fun h => V.xi (i := i) h.g.1.2.1 ex_ (V.ed h 0 51 rfl) (V.ed h 1 52 rfl)
   ·exact V.z1 rfl fun h => V.x_fieldP (j := i * 6 + 0) (k := 1) (V.ed h 2 53 rfl) (fun _ => by kernel_rfl)
   ·exact V.z1 rfl fun h => V.xl (V.ed h 3 54 rfl) (V.ld_lsE (i := i) (o := 1) (cs := [.bool (Q.neg xc.w.q), Vs xc.w.A (Q.m xc.w.q) xc.w.c, .bool false, Vs xc.w.A' xc.w.q.den xc.w.c']) h.g.1.2.1 ex_ Tryz.underlying39)
   ·exact V.z1 rfl fun h => V.xl (V.eo h 9 s9) (V.lr h.g.1.2.2.2.1 Tryz.underlying39)
   ·refine V.s2 rfl fun f W h => ?_
    refine V.call en28 (V.args2 (V.ed h 4 55 rfl) (V.ed h 5 56 rfl)) (Calls.mono (Mul_f h.g.1.2.2.2.2.2.2.2 h.g.1.2.2.2.2.1 (gx.s.mono (by decide)) (hbs.mono (by decide)) ((gx.s.mul hbs).mono (by decide))) ?_)
    rintro e W' ⟨z239, rfl, k240, e241, o242, hb⟩
    exact ⟨_, rfl, ⟨z239, rfl, k240, e241, fun g hg => o242 g (Nat.lt_of_lt_of_le hg h.g.2)⟩, hb⟩
   ·refine V.s2 rfl fun f W h => ?_
    obtain ⟨z239, a57, k6_0, p6_0, p6_1⟩ := V.dp h 6 57 (by kernel_rfl) rfl
    exact V.v2 (.tuple #[z239.v, .int .i64 0]) (V.xm (V.ev_tmp rfl a57)) ⟨z239, rfl, k6_0, p6_0, p6_1⟩
   ·refine V.s2 rfl fun f W h => ?_
    obtain ⟨z243, a50, k7_0, p7_0, p7_1⟩ := V.dp h 7 50 (by kernel_rfl) rfl
    exact V.v2 (z243.v) (V.xe (V.ev_tmp rfl a50)) ⟨z243, rfl, k7_0, p7_0, p7_1⟩
   ·refine V.s1 rfl fun f W h => ?_
    obtain ⟨z243, a50, k7_0, p7_0, p7_1⟩ := V.dp h 7 50 (by kernel_rfl) rfl
    exact V.xe (V.ev_tmp rfl a50)
   ·exact V.sn rfl fun f W h => V.x_alloc
  ·refine V.fl1 (V.fl_step rfl rfl fun f W h => ?_)
   ·obtain ⟨z243, a50, k7_0, p7_0, p7_1⟩ := V.dp h 7 50 (by kernel_rfl) rfl
    exact ⟨.int .i64 0, fun _ _ => V.xe (V.ev_tmp rfl a50), rfl⟩
  have o_g54 := r75.lt
  have o_bel := r72.size
  have ob_r73 := r73.blt
  intro f246 W247 hE248
  clear r72 r73 r74 r75 r76 r77 r78 fx
  obtain ⟨⟨r72, r73, r74, r75, r76, r77, r78, fx⟩, hsz⟩ := hE248.g
  obtain ⟨s0, s1, s9, s10, s11⟩ := V.e5 hE248 s0 s1 s9 s10 s11
  obtain ⟨z244, s58, r249, n250, n251⟩ := V.eq hE248 8 58 rfl
  have s59 := V.es hE248 9 59 rfl
  obtain ⟨g245, s12, b_g245, l_g245⟩ := V.eq hE248 10 12 rfl
  have m_g245 : w.heap.size ≤ g245 := Nat.le_trans o_bel l_g245
  have q_g54_g245 : g54 ≠ g245 := by omega
  have q_r73_g245 : 0 < l.length → (adr A).block ≠ g245 := fun h => Nat.ne_of_lt (Nat.lt_of_lt_of_le (ob_r73 h) l_g245)
  clear hE248 hsz
  clear o_bel o_g54 ob_r73
  refine V.t_st (k := 11) rfl (V.x_store (V.ev_tmp rfl s12) (V.ev_tmp rfl s58) (V.st_row b_g245)) b_g245 fun W252 hs b' => ?_
  replace r72 := hs.bel r72 m_g245
  replace r73 := hs.ls r73 q_r73_g245
  replace r74 := (fun x_0 hx_0 => hs.fr (r74 x_0 hx_0))
  replace r75 := hs.blk r75 q_g54_g245
  replace r76 := hs.fr r76
  replace r77 := hs.acc r77
  replace r78 := (fun x_0 hx_0 => hs.fr (r78 x_0 hx_0))
  replace fx := hs.fr fx
  replace r249 := hs.fr r249
  replace b_g245 := b'
  clear hs b'
  refine V.t_val (k := 12) (v := .int .i64 0) (t := 13) rfl rfl rfl (by kernel_rfl) trivial (V.xs (V.ev_tmp rfl s59)) ?_
  intro f253 e254 u255
  replace s0 : f253 0 = .int .i64 a := (u255 0 (by decide)).trans s0
  replace s1 : f253 1 = .slice A l.length c := (u255 1 (by decide)).trans s1
  replace s9 : f253 9 = Vp g54 0 := (u255 9 (by decide)).trans s9
  replace s10 : f253 10 = .slice A1 ((ms.map Cl.cells).length) c1 := (u255 10 (by decide)).trans s10
  replace s11 : f253 11 = .int .i64 (i : Int) := (u255 11 (by decide)).trans s11
  replace s58 : f253 58 = z244.v := (u255 58 (by decide)).trans s58
  replace s59 : f253 59 = .int .i64 0 := (u255 59 (by decide)).trans s59
  replace s12 : f253 12 = Vp g245 0 := (u255 12 (by decide)).trans s12
  have s13 := e254
  clear u255
  refine V.t_done rfl ?_
  have hoz : FOffA A1 z244 := fun ad e => n251 ad.block (hab ad e)
  refine V.nx ?_
  refine V.reg 14 [V.E (.slice A1 ((ms.map Cl.cells).length) c1), V.E (.slice A l.length c), V.E (.int .i64 (i : Int)), V.E (.pointer (some ((adr A).add (i * 6 + 0)))), V.E (.pointer (some ((adr A).add (i * 6 + 0)))), V.E (.int .i64 xc.id), V.E (z244.v), V.E (.slice A l.length c), V.E (.int .i64 (i : Int)), V.E (.pointer (some ((adr A).add (i * 6 + 0)))), V.E (.pointer (some ((adr A).add (i * 6 + 5)))), V.E (.int .i64 xc.cap), V.E (.agg #[.int .i64 xc.id, .bool (Q.neg z244.q), Vs z244.A (Q.m z244.q) z244.c, .bool false, Vs z244.A' z244.q.den z244.c', .int .i64 xc.cap]), (fun v W => ∃ g256 : Nat, v = .slice (some ⟨g256, 0, none⟩) 1 1 ∧ Blk W g256 50 #[.int .i64 xc.id, .bool (Q.neg z244.q), Vs z244.A (Q.m z244.q) z244.c, .bool false, Vs z244.A' z244.q.den z244.c', .int .i64 xc.cap] ∧ (w.heap.size ≤ g256))] [] (V.i r72 (V.i r73 (V.i r74 (V.i r75 (V.i r76 (V.i r77 (V.i r78 (V.i fx (V.i r249 b_g245))))))))) ?_ ?_
  ·refine V.ac ?_ (V.ac ?_ (V.ac ?_ (V.ac ?_ (V.ac ?_ (V.ac ?_ (V.ac ?_ (V.ac ?_ (V.ac ?_ (V.ac ?_ (V.ac ?_ (V.ac ?_ (V.ac ?_ (V.ac ?_ V.an)))))))))))))
   ·exact V.z1 rfl fun h => V.xm (V.eo h 10 s10)
   ·exact V.z1 rfl fun h => V.xm (V.eo h 1 s1)
   ·exact V.z1 rfl fun h => V.xm (V.eo h 11 s11)
   ·exact V.z1 rfl fun h => V.xi (i := i) h.g.1.2.1 ex_ (V.ed h 1 61 rfl) (V.ed h 2 62 rfl)
   ·exact V.z1 rfl fun h => V.x_fieldP (j := i * 6 + 0) (k := 0) (V.ed h 3 63 rfl) (fun _ => by kernel_rfl)
   ·exact V.z1 rfl fun h => V.xl (V.ed h 4 64 rfl) (V.ld_ls1 (i := i) (o := 0) h.g.1.2.1 ex_ rfl)
   ·exact V.z1 rfl fun h => V.xl (V.eo h 12 s12) (V.lr h.g.1.2.2.2.2.2.2.2.2.2 Tryz.underlying39)
   ·exact V.z1 rfl fun h => V.xm (V.eo h 1 s1)
   ·exact V.z1 rfl fun h => V.xm (V.eo h 11 s11)
   ·exact V.z1 rfl fun h => V.xi (i := i) h.g.1.2.1 ex_ (V.ed h 7 67 rfl) (V.ed h 8 68 rfl)
   ·exact V.z1 rfl fun h => V.x_fieldP (j := i * 6 + 0) (k := 5) (V.ed h 9 69 rfl) (fun _ => by kernel_rfl)
   ·exact V.z1 rfl fun h => V.xl (V.ed h 10 70 rfl) (V.ld_ls1 (i := i) (o := 5) h.g.1.2.1 ex_ rfl)
   ·exact V.z1 rfl fun h => V.b3 (V.ed h 5 65 rfl) (V.ed h 6 66 rfl) (V.ed h 11 71 rfl)
   ·refine V.s2 rfl fun f W h => ?_
    exact V.valv (.slice (some ⟨W.heap.size, 0, none⟩) 1 1) (V.c1 (V.ed h 12 72 rfl)) ⟨⟨W.heap.size, rfl, Blk.new W 50 #[.int .i64 xc.id, .bool (Q.neg z244.q), Vs z244.A (Q.m z244.q) z244.c, .bool false, Vs z244.A' z244.q.den z244.c', .int .i64 xc.cap], h.g.1.1.size⟩, (Below.refl _ _).alloc (Nat.le_refl _) _⟩
  intro f257 W258 hE259
  clear r72 r73 r74 r75 r76 r77 r78 fx r249 b_g245
  obtain ⟨⟨r72, r73, r74, r75, r76, r77, r78, fx, r249, b_g245⟩, hsz⟩ := hE259.g
  obtain ⟨s0, s1, s9, s10, s11⟩ := V.e5 hE259 s0 s1 s9 s10 s11
  have s60 := V.es hE259 0 60 rfl
  obtain ⟨g256, s73, r260, n261⟩ := V.eq hE259 13 73 rfl
  clear hE259 hsz
  obtain ⟨A263, c264, W265, hr266, acc267, hw268, h9269, h10270⟩ := acc_append3 (P := Tryz.prog) (t := 22) (ty := 22) (z := .agg #[.int .i64 0, .bool false, .slice none 0 0, .bool false, .slice none 0 0, .int .i64 0]) (x := [.int .i64 xc.id, .bool (Q.neg z244.q), Vs z244.A (Q.m z244.q) z244.c, .bool false, Vs z244.A' z244.q.den z244.c', .int .i64 xc.cap]) r77 r260 rfl (by rw [List.length_map]; omega) rfl (by kernel_rfl) (by decide) (by kernel_rfl)
  refine V.t_val (k := 14) (v := .slice A263 (((ms.map Cl.cells).length) + 1) c264) (t := 74) rfl rfl rfl (by kernel_rfl) trivial (V.x_append (V.ev_tmp rfl s60) (V.ev_tmp rfl s73) hr266) ?_
  intro f271 e272 u273
  replace s0 : f271 0 = .int .i64 a := (u273 0 (by decide)).trans s0
  replace s1 : f271 1 = .slice A l.length c := (u273 1 (by decide)).trans s1
  replace s9 : f271 9 = Vp g54 0 := (u273 9 (by decide)).trans s9
  replace s10 : f271 10 = .slice A1 ((ms.map Cl.cells).length) c1 := (u273 10 (by decide)).trans s10
  replace s11 : f271 11 = .int .i64 (i : Int) := (u273 11 (by decide)).trans s11
  replace s60 : f271 60 = .slice A1 ((ms.map Cl.cells).length) c1 := (u273 60 (by decide)).trans s60
  replace s73 : f271 73 = .slice (some ⟨g256, 0, none⟩) 1 1 := (u273 73 (by decide)).trans s73
  have s74 := e272
  clear u273
  replace r75 : Blk W265 g54 39 z51.cs := h9269 _ _ _ (by decide) r75
  replace b_g245 : Blk W265 g245 39 z244.cs := h9269 _ _ _ (by decide) b_g245
  obtain ⟨r274, hob2⟩ := h10270 z51 hob r76
  obtain ⟨r275, hoz2⟩ := h10270 z244 hoz r249
  have r276 : ∀ x ∈ ms, Fr.ok W265 x.w := fun x hx => (h10270 x.w (hoff x hx) (r78 x hx)).1
  have hoff2 : ∀ x ∈ ms, FOffA A263 x.w := fun x hx => (h10270 x.w (hoff x hx) (r78 x hx)).2
  replace r72 : Below w.heap.size w W265 := r72.trans hw268
  replace r73 : Ls W265 6 A l.length c (l.map Cl.cells) := (V.Stb.ls : V.Stb fun W => Ls W 6 A l.length c (l.map Cl.cells)) _ _ w_hl r72
  replace r74 : (∀ x ∈ l, Fr.ok W265 x.w) := ((V.Stb.all fun _ => V.Stb.fr) : V.Stb fun W => (∀ x ∈ l, Fr.ok W x.w)) _ _ w_hfr r72
  clear r76
  clear r77
  clear r78
  clear fx
  clear r249
  clear r260
  refine V.t_val (k := 15) (v := .slice A263 (((ms.map Cl.cells).length) + 1) c264) (t := 10) rfl rfl rfl (by kernel_rfl) trivial (V.xs (V.ev_tmp rfl s74)) ?_
  intro f277 e278 u279
  replace s0 : f277 0 = .int .i64 a := (u279 0 (by decide)).trans s0
  replace s1 : f277 1 = .slice A l.length c := (u279 1 (by decide)).trans s1
  replace s9 : f277 9 = Vp g54 0 := (u279 9 (by decide)).trans s9
  replace s11 : f277 11 = .int .i64 (i : Int) := (u279 11 (by decide)).trans s11
  replace s60 : f277 60 = .slice A1 ((ms.map Cl.cells).length) c1 := (u279 60 (by decide)).trans s60
  replace s73 : f277 73 = .slice (some ⟨g256, 0, none⟩) 1 1 := (u279 73 (by decide)).trans s73
  replace s74 : f277 74 = .slice A263 (((ms.map Cl.cells).length) + 1) c264 := (u279 74 (by decide)).trans s74
  have s10 := e278
  clear u279
  refine V.t_done rfl (V.bn (V.nx ?_))
  clear b_g245
  refine V.reg 3 [V.E (.int .i64 (i : Int)), V.E (.int .i64 ((i : Int) + 1)), V.E (.int .i64 ((i : Int) + 1))] [] (V.i r75 (V.i r72 (V.i r73 (V.i r74 (V.i r274 (V.i r275 (V.i r276 acc267))))))) ?_ ?_
  ·refine V.ac ?_ (V.ac ?_ (V.ac ?_ V.an))
   ·exact V.z1 rfl fun h => V.xm (V.eo h 11 s11)
   ·refine V.s1 rfl fun f W h => ?_
    have hw280 : IntKind.i64.wrap ((i : Int) + 1) = (i : Int) + 1 := by exact IntWalk.i64_in _ (by omega)
    exact V.xb (V.ed h 0 48 rfl) rfl ((by kernel_rfl : _ = Result.ok (.int .i64 (IntKind.i64.wrap ((i : Int) + 1))) _).trans (by rw [hw280]))
   ·exact V.z1 rfl fun h => V.xs (V.ed h 1 49 rfl)
  intro f281 W282 hE283
  clear r75 r72 r73 r74 r274 r275 r276 acc267
  obtain ⟨⟨r75, r72, r73, r74, r274, r275, r276, acc267⟩, hsz⟩ := hE283.g
  obtain ⟨s0, s1, s9, s10⟩ := V.e4 hE283 s0 s1 s9 s10
  have s11 := V.es hE283 2 11 rfl
  clear hE283 hsz
  refine V.t_done rfl ?_
  have r284 : Acc W282 w.heap.size 50 6 A263 c264 ((ms ++ [(⟨xc.id, z244, xc.cap⟩ : Cl)]).map Cl.cells) := by rw [List.map_append]; exact acc267
  have r285 : ∀ x ∈ (ms ++ [(⟨xc.id, z244, xc.cap⟩ : Cl)]), Fr.ok W282 x.w := all_snocC (p := fun q => Fr.ok W282 q) (y := (⟨xc.id, z244, xc.cap⟩ : Cl)) r276 r275
  refine V.handed (l.length - (i + 1)) (by have := hk79; omega) ⟨(i + 1), (ms ++ [(⟨xc.id, z244, xc.cap⟩ : Cl)]), A263, c264, ⟨rfl, by omega, by simp [hml], hSI.snoc hml ex n250, all_snocC (p := FOffA A263) (y := (⟨xc.id, z244, xc.cap⟩ : Cl)) hoff2 hoz2, hob2⟩, ⟨s0, s1, s9, (s10.trans (by simp)), (s11.trans (by simp))⟩, ⟨r72, r73, r74, r75, r274, r284, r285⟩⟩
end Go.Proofs.YtjbcalbbhomkjaaGreat
namespace Go.Proofs.YtjbcalbbhomkjaaGreat
open Go.ChangeShapes Go.WideShapes Go.ChangeAt Go.RowKit Go.Deep
theorem u8_nat {n : Int} (h : IntKind.u8.min ≤ n ∧ n ≤ IntKind.u8.max) : ∃ k : Nat, n = (k : Int) ∧ k < 256 := by
 have h0 : (0 : Int) ≤ n := h.1
 have h1 : n ≤ 255 := h.2
 exact ⟨n.toNat, by omega, by omega⟩
theorem scale_law {a n d : Int} {A : Option Addr} {c : Nat} {l : List Rc} {w : World} (hl : Ls w 6 A l.length c (l.map Rc.cells)) (hfr : ∀ x ∈ l, Rc.ok w x) (hn : IntKind.u8.min ≤ n ∧ n ≤ IntKind.u8.max) (hd : IntKind.u8.min ≤ d ∧ d ≤ IntKind.u8.max) :
  Calls Tryz.prog 7 #[.int .i64 a, .slice A l.length c, .int .u8 n, .int .u8 d] w fun e w' => e = .returned (.bool true) ∧ Below w.heap.size w w' := by
 obtain ⟨n, rfl, hn2⟩ := u8_nat hn
 obtain ⟨d, rfl, hd2⟩ := u8_nat hd
 cases h : usableB a l with
 | false => exact scale_no1 hl hfr h
 | true =>
  rcases Nat.eq_zero_or_pos n with hn0 | hn0
  ·exact scale_no2 hl hfr h hn0
  ·rcases Nat.eq_zero_or_pos d with hd0 | hd0
   ·exact scale_no3 hl hfr h hn0 hd0
   ·obtain ⟨k, rfl, hV, h10, h0, h1⟩ := usable_typed hfr h
    rw [List.length_map] at hl ⊢
    exact scale_yes (typed_ls hl) (typed_ok hfr) hV h10 h0 h1 hn2 hd2 hn0 hd0
set_option maxRecDepth 100000 in
theorem scale_lifted (os : Os) (started : os.Started) (H : Type) (enc : TypeId × Value → H) :
  ReturnsInHanded {} Tryz.checked os 7 .any (Rows.survivorScaleSpec.pre6 enc Tryz.prog Tryz.f7 Rows.survivorScaleRow.domain false) (Rows.survivorScaleSpec.post enc Tryz.prog Tryz.f7 false true false false) := by
 refine returnsInHanded_of_change (C := Tryz.checked) Tryz.own started (by kernel_rfl) Tryz.func7
  (ChangeSpec.witness6 (enc := enc) (C := Tryz.checked) false ⟨#[], #[.int .i64 0, .slice none 0 0, .int .u8 0, .int .u8 0], []⟩ 8 (by kernel_rfl) (by kernel_rfl) (by kernel_rfl) (by kernel_rfl)) ?_
 intro W base args ds gs before hval0 hW hcnd _
 have hval : ∀ (j : Nat) t v, Tryz.f7.params[j]? = some t → args[j]? = some v → Value.okWide Tryz.prog W .any base t v := hval0
 have hW' := hW
 obtain ⟨p, q, hA0, hV, rfl, hfz, hnd⟩ := hW
 have hA : DataW.TrodAll enc Tryz.prog W 0 (fun _ => true) true Tryz.f7.params.toList args.toList ds p := hA0
 rw [Tryz.params7] at hA hval
 obtain ⟨v0, v1, v2, v3, d0, d1, d2, d3, p0, p1, p2, p3, rfl, rfl, rfl, h0, h1, h2, h3⟩ := trodAll_four hA
 obtain ⟨rfl, rfl⟩ := trodVars_none hV
 obtain ⟨a, rfl, rfl, rfl, wa⟩ := open_int Tryz.underlying3 (hval 0 3 v0 rfl rfl) h0
 obtain ⟨A', n', c', rfl⟩ := okWide_slice Tryz.underlying22 (hval 1 22 v1 rfl rfl)
 have h1k := h1
 obtain ⟨fuel, hf⟩ := h1
 obtain ⟨A, c, l, hcs, hl, hfr⟩ := open_claims hf
 obtain ⟨rfl, rfl, rfl⟩ : A' = A ∧ n' = l.length ∧ c' = c := by simpa [Value.cells] using hcs
 obtain ⟨n, rfl, rfl, rfl, wn⟩ := open_int Tryz.underlying5 (hval 2 5 v2 rfl rfl) h2
 obtain ⟨d, rfl, rfl, rfl, wd⟩ := open_int Tryz.underlying5 (hval 3 5 v3 rfl rfl) h3
 have hlt : ∀ x ∈ p1, x.block < W.heap.size := fun x hx => hW'.lt x (by simpa using hx)
 have bn := wn
 simp only [Lit.wf, Bool.and_eq_true, decide_eq_true_eq] at bn
 have bd := wd
 simp only [Lit.wf, Bool.and_eq_true, decide_eq_true_eq] at bd
 refine (scale_law (a := a) (n := n) (d := d) hl hfr bn bd).mono fun e W' ⟨he, hB⟩ => ?_
 subst he
 exact ⟨_, rfl, _, _, _, [], _, [], hW', trodAll_mk1 (shut_bool Tryz.underlying4 true), trodAll_mk4 (shut_int Tryz.underlying3 wa) (Below.trod Tryz.laidOut (by kernel_rfl) (of_decide_eq_true (by kernel_rfl)) h1k hB hlt) (shut_int Tryz.underlying5 wn) (shut_int Tryz.underlying5 wd), rfl, hB.frame _, fun h => by cases h⟩
theorem scale_holds : Rows.SurvivorScaleSaid :=
 OpenClaim.holds_of_wide 7 Tryz.f7 rfl rfl rfl rfl rfl rfl rfl ⟨rfl, rfl, rfl, rfl, rfl⟩ rfl rfl rfl rfl rfl (by kernel_rfl) Tryz.func7 (by kernel_rfl)
  (of_decide_eq_true (by kernel_rfl)) (by unfold Func.isWrapper; first | (rw [if_pos (by decide +kernel)]; kernel_rfl) | (rw [if_neg (by decide +kernel)]; exact ⟨rfl, rfl⟩))
  (fun os started H enc _ => scale_lifted os started H enc)
#print axioms scale_holds
end Go.Proofs.YtjbcalbbhomkjaaGreat
