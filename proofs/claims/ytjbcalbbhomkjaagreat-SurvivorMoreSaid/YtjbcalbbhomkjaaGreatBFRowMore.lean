/- PROVED: SurvivorMore answers true for all amounts and every list of claims, and leaves its arguments as they were. No condition. -/
import Derived.Test.YtjbcalbbhomkjaaGreatBZ4
namespace Go.Proofs.YtjbcalbbhomkjaaGreat
open Go.RowKit
attribute [local irreducible] RI.frame RI.act RI.Ob RI.Tail RI.out V.Wp V.Fn Oper.wp
set_option maxRecDepth 20000 in
set_option maxHeartbeats 2000000 in
theorem more_no1 {A : Option Addr} {c : Nat} {l : List Rc} {w : World} (hl : Ls w 6 A l.length c (l.map Rc.cells)) (hfr : ∀ x ∈ l, Rc.ok w x) {a b : Int} (ha : usableB a l = false) :
    Calls Tryz.prog 4 #[.int .i64 a, .int .i64 b, .slice A l.length c] w fun e w' => e = .returned (.bool true) ∧ Below w.heap.size w w' := by
 refine V.enter Tryz.func4 rfl rfl (by simp) fun f0 hf => ?_
 have s0 : f0 0 = .int .i64 a := hf 0 (by simp)
 have s1 : f0 1 = .int .i64 b := hf 1 (by simp)
 have s2 : f0 2 = .slice A l.length c := hf 2 (by simp)
 clear hf
 have hb : Below w.heap.size w w := Below.refl _ _
 have w_hl := hl
 have w_hfr := hfr
 refine V.seq ?_
 refine V.reg 1 [V.E (.bool false)] [] (V.i hl (V.i hfr hb)) ?_ ?_
 ·refine V.ac ?_ V.an
  ·exact V.z1 rfl fun h => V.xs rfl
 intro f1 W2 hE3
 clear hl hfr hb
 obtain ⟨⟨hl, hfr, hb⟩, hsz⟩ := hE3.g
 obtain ⟨s0, s1, s2⟩ := V.e3 hE3 s0 s1 s2
 have s6 := V.es hE3 0 6 rfl
 clear hE3 hsz
 refine V.t_done rfl (V.nx (V.seq (V.seq ?_)))
 refine V.reg 2 [V.E (.bool true), V.E (.bool false)] [] (V.i hl (V.i hfr hb)) ?_ ?_
 ·refine V.ac ?_ (V.ac ?_ V.an)
  ·refine V.s2 rfl fun f W h => ?_
   refine V.call en11 (V.args0 ) (Calls.mono (awake_s) ?_)
   rintro e W' ⟨rfl, hb⟩
   exact ⟨_, rfl, rfl, hb⟩
  ·exact V.z1 rfl fun h => V.x_un (V.ed h 0 21 rfl)
 intro f4 W5 hE6
 clear hl hfr hb
 obtain ⟨⟨hl, hfr, hb⟩, hsz⟩ := hE6.g
 obtain ⟨s0, s1, s2, s6⟩ := V.e4 hE6 s0 s1 s2 s6
 have s22 := V.es hE6 1 22 rfl
 clear hE6 hsz
 refine V.t_done rfl (V.nx ?_)
 refine V.cond_f (V.ev_tmp rfl s22) ?_
 refine V.skip ?_
 refine V.nx (V.seq (V.seq ?_))
 refine V.reg 15 [V.E (.int .i64 a), V.E (.slice A l.length c), V.E (.bool false), V.E (.bool true), V.E (.bool true), (V.Gd (!true) (V.E (.int .i64 b))), (V.Gd (!true) (V.E (.slice A l.length c))), (V.Gd (!true) (V.E (.bool true))), (V.Gd (!true) (V.E (.bool false))), V.E (.bool true), V.E (.bool true), (V.Gd (!true) (V.E (.int .i64 b))), (V.Gd (!true) (V.E (.int .i64 a))), (V.Gd (!true) (V.E (.bool (decide (b < a))))), V.E (.bool true)] [] (V.i hl (V.i hfr hb)) ?_ ?_
 ·refine V.ac ?_ (V.ac ?_ (V.ac ?_ (V.ac ?_ (V.ac ?_ (V.ac ?_ (V.ac ?_ (V.ac ?_ (V.ac ?_ (V.ac ?_ (V.ac ?_ (V.ac ?_ (V.ac ?_ (V.ac ?_ (V.ac ?_ V.an))))))))))))))
  ·exact V.z1 rfl fun h => V.xm (V.eo h 0 s0)
  ·exact V.z1 rfl fun h => V.xm (V.eo h 2 s2)
  ·refine V.s2 rfl fun f W h => ?_
   refine V.call en12 (V.args2 (V.ed h 0 23 rfl) (V.ed h 1 24 rfl)) (Calls.mono (usable_s h.g.1.1 h.g.1.2.1) ?_)
   rintro e W' ⟨e7, hb⟩
   rw [ha] at e7
   subst e7
   exact ⟨_, rfl, rfl, hb⟩
  ·exact V.z1 rfl fun h => V.x_un (V.ed h 2 25 rfl)
  ·exact V.z1 rfl fun h => V.xm (V.ed h 3 26 rfl)
  ·exact V.gf 4 27 rfl rfl fun hp f W h => V.v1 (V.xm (V.eo h 1 s1))
  ·exact V.gf 4 27 rfl rfl fun hp f W h => V.v1 (V.xm (V.eo h 2 s2))
  ·refine V.gf 4 27 rfl rfl fun hp f W h => ?_
   refine V.call en12 (V.args2 (V.eg h 5 28 rfl hp) (V.eg h 6 29 rfl hp)) (Calls.mono (usable_s h.g.1.1 h.g.1.2.1) ?_)
   rintro e W' ⟨e8, hb⟩
   rw [show usableB b l = true by cases hp] at e8
   subst e8
   exact ⟨_, rfl, rfl, hb⟩
  ·exact V.gf 4 27 rfl rfl fun hp f W h => V.v1 (V.x_un (V.eg h 7 30 rfl hp))
  ·refine V.s1 rfl fun f W h => ?_
   have d31 := V.dp h 8 31 (by kernel_rfl) rfl
   exact V.x_pick_t (V.ed h 4 27 rfl) rfl
  ·exact V.z1 rfl fun h => V.xm (V.ed h 9 32 rfl)
  ·exact V.gf 10 33 rfl rfl fun hp f W h => V.v1 (V.xm (V.eo h 1 s1))
  ·exact V.gf 10 33 rfl rfl fun hp f W h => V.v1 (V.xm (V.eo h 0 s0))
  ·exact V.gf 10 33 rfl rfl fun hp f W h => V.v1 (V.xb (V.eg h 11 34 rfl hp) (V.eg h 12 35 rfl hp))
  ·refine V.s1 rfl fun f W h => ?_
   have d36 := V.dp h 13 36 (by kernel_rfl) rfl
   exact V.x_pick_t (V.ed h 10 33 rfl) rfl
 intro f9 W10 hE11
 clear hl hfr hb
 obtain ⟨⟨hl, hfr, hb⟩, hsz⟩ := hE11.g
 obtain ⟨s0, s1, s2, s6⟩ := V.e4 hE11 s0 s1 s2 s6
 have s37 := V.es hE11 14 37 rfl
 clear hE11 hsz
 refine V.t_done rfl (V.nx ?_)
 refine V.cond_t (V.ev_tmp rfl s37) ?_
 refine V.seq ?_
 refine V.reg 1 [V.E (.bool true)] [] (V.i hl (V.i hfr hb)) ?_ ?_
 ·refine V.ac ?_ V.an
  ·exact V.z1 rfl fun h => V.xs rfl
 intro f12 W13 hE14
 clear hl hfr hb
 obtain ⟨⟨hl, hfr, hb⟩, hsz⟩ := hE14.g
 obtain ⟨s0, s1, s2⟩ := V.e3 hE14 s0 s1 s2
 have s6 := V.es hE14 0 6 rfl
 clear hE14 hsz
 refine V.t_done rfl (V.nx (V.ret (V.tr ?_)))
 refine V.leave_any (.inl rfl) (V.res_tmp rfl rfl s6) ?_
 exact ⟨rfl, hb⟩
set_option maxRecDepth 20000 in
set_option maxHeartbeats 2000000 in
theorem more_no2 {A : Option Addr} {c : Nat} {l : List Rc} {w : World} (hl : Ls w 6 A l.length c (l.map Rc.cells)) (hfr : ∀ x ∈ l, Rc.ok w x) {a b : Int} (ha : usableB a l = true) (hb_ : usableB b l = false) :
    Calls Tryz.prog 4 #[.int .i64 a, .int .i64 b, .slice A l.length c] w fun e w' => e = .returned (.bool true) ∧ Below w.heap.size w w' := by
 refine V.enter Tryz.func4 rfl rfl (by simp) fun f0 hf => ?_
 have s0 : f0 0 = .int .i64 a := hf 0 (by simp)
 have s1 : f0 1 = .int .i64 b := hf 1 (by simp)
 have s2 : f0 2 = .slice A l.length c := hf 2 (by simp)
 clear hf
 have hb : Below w.heap.size w w := Below.refl _ _
 have w_hl := hl
 have w_hfr := hfr
 refine V.seq ?_
 refine V.reg 1 [V.E (.bool false)] [] (V.i hl (V.i hfr hb)) ?_ ?_
 ·refine V.ac ?_ V.an
  ·exact V.z1 rfl fun h => V.xs rfl
 intro f15 W16 hE17
 clear hl hfr hb
 obtain ⟨⟨hl, hfr, hb⟩, hsz⟩ := hE17.g
 obtain ⟨s0, s1, s2⟩ := V.e3 hE17 s0 s1 s2
 have s6 := V.es hE17 0 6 rfl
 clear hE17 hsz
 refine V.t_done rfl (V.nx (V.seq (V.seq ?_)))
 refine V.reg 2 [V.E (.bool true), V.E (.bool false)] [] (V.i hl (V.i hfr hb)) ?_ ?_
 ·refine V.ac ?_ (V.ac ?_ V.an)
  ·refine V.s2 rfl fun f W h => ?_
   refine V.call en11 (V.args0 ) (Calls.mono (awake_s) ?_)
   rintro e W' ⟨rfl, hb⟩
   exact ⟨_, rfl, rfl, hb⟩
  ·exact V.z1 rfl fun h => V.x_un (V.ed h 0 21 rfl)
 intro f18 W19 hE20
 clear hl hfr hb
 obtain ⟨⟨hl, hfr, hb⟩, hsz⟩ := hE20.g
 obtain ⟨s0, s1, s2, s6⟩ := V.e4 hE20 s0 s1 s2 s6
 have s22 := V.es hE20 1 22 rfl
 clear hE20 hsz
 refine V.t_done rfl (V.nx ?_)
 refine V.cond_f (V.ev_tmp rfl s22) ?_
 refine V.skip ?_
 refine V.nx (V.seq (V.seq ?_))
 refine V.reg 15 [V.E (.int .i64 a), V.E (.slice A l.length c), V.E (.bool true), V.E (.bool false), V.E (.bool false), (V.Gd (!false) (V.E (.int .i64 b))), (V.Gd (!false) (V.E (.slice A l.length c))), (V.Gd (!false) (V.E (.bool false))), (V.Gd (!false) (V.E (.bool true))), V.E (.bool true), V.E (.bool true), (V.Gd (!true) (V.E (.int .i64 b))), (V.Gd (!true) (V.E (.int .i64 a))), (V.Gd (!true) (V.E (.bool (decide (b < a))))), V.E (.bool true)] [] (V.i hl (V.i hfr hb)) ?_ ?_
 ·refine V.ac ?_ (V.ac ?_ (V.ac ?_ (V.ac ?_ (V.ac ?_ (V.ac ?_ (V.ac ?_ (V.ac ?_ (V.ac ?_ (V.ac ?_ (V.ac ?_ (V.ac ?_ (V.ac ?_ (V.ac ?_ (V.ac ?_ V.an))))))))))))))
  ·exact V.z1 rfl fun h => V.xm (V.eo h 0 s0)
  ·exact V.z1 rfl fun h => V.xm (V.eo h 2 s2)
  ·refine V.s2 rfl fun f W h => ?_
   refine V.call en12 (V.args2 (V.ed h 0 23 rfl) (V.ed h 1 24 rfl)) (Calls.mono (usable_s h.g.1.1 h.g.1.2.1) ?_)
   rintro e W' ⟨e21, hb⟩
   rw [ha] at e21
   subst e21
   exact ⟨_, rfl, rfl, hb⟩
  ·exact V.z1 rfl fun h => V.x_un (V.ed h 2 25 rfl)
  ·exact V.z1 rfl fun h => V.xm (V.ed h 3 26 rfl)
  ·exact V.gf 4 27 rfl rfl fun hp f W h => V.v1 (V.xm (V.eo h 1 s1))
  ·exact V.gf 4 27 rfl rfl fun hp f W h => V.v1 (V.xm (V.eo h 2 s2))
  ·refine V.gf 4 27 rfl rfl fun hp f W h => ?_
   refine V.call en12 (V.args2 (V.eg h 5 28 rfl hp) (V.eg h 6 29 rfl hp)) (Calls.mono (usable_s h.g.1.1 h.g.1.2.1) ?_)
   rintro e W' ⟨e22, hb⟩
   rw [hb_] at e22
   subst e22
   exact ⟨_, rfl, rfl, hb⟩
  ·exact V.gf 4 27 rfl rfl fun hp f W h => V.v1 (V.x_un (V.eg h 7 30 rfl hp))
  ·refine V.s1 rfl fun f W h => ?_
   have d31 := V.dp h 8 31 (by kernel_rfl) rfl
   exact V.x_pick_f (V.ed h 4 27 rfl) (V.ev_tmp rfl (V.gd_on d31 rfl))
  ·exact V.z1 rfl fun h => V.xm (V.ed h 9 32 rfl)
  ·exact V.gf 10 33 rfl rfl fun hp f W h => V.v1 (V.xm (V.eo h 1 s1))
  ·exact V.gf 10 33 rfl rfl fun hp f W h => V.v1 (V.xm (V.eo h 0 s0))
  ·exact V.gf 10 33 rfl rfl fun hp f W h => V.v1 (V.xb (V.eg h 11 34 rfl hp) (V.eg h 12 35 rfl hp))
  ·refine V.s1 rfl fun f W h => ?_
   have d36 := V.dp h 13 36 (by kernel_rfl) rfl
   exact V.x_pick_t (V.ed h 10 33 rfl) rfl
 intro f23 W24 hE25
 clear hl hfr hb
 obtain ⟨⟨hl, hfr, hb⟩, hsz⟩ := hE25.g
 obtain ⟨s0, s1, s2, s6⟩ := V.e4 hE25 s0 s1 s2 s6
 have s37 := V.es hE25 14 37 rfl
 clear hE25 hsz
 refine V.t_done rfl (V.nx ?_)
 refine V.cond_t (V.ev_tmp rfl s37) ?_
 refine V.seq ?_
 refine V.reg 1 [V.E (.bool true)] [] (V.i hl (V.i hfr hb)) ?_ ?_
 ·refine V.ac ?_ V.an
  ·exact V.z1 rfl fun h => V.xs rfl
 intro f26 W27 hE28
 clear hl hfr hb
 obtain ⟨⟨hl, hfr, hb⟩, hsz⟩ := hE28.g
 obtain ⟨s0, s1, s2⟩ := V.e3 hE28 s0 s1 s2
 have s6 := V.es hE28 0 6 rfl
 clear hE28 hsz
 refine V.t_done rfl (V.nx (V.ret (V.tr ?_)))
 refine V.leave_any (.inl rfl) (V.res_tmp rfl rfl s6) ?_
 exact ⟨rfl, hb⟩
set_option maxRecDepth 20000 in
set_option maxHeartbeats 2000000 in
theorem more_no3 {A : Option Addr} {c : Nat} {l : List Rc} {w : World} (hl : Ls w 6 A l.length c (l.map Rc.cells)) (hfr : ∀ x ∈ l, Rc.ok w x) {a b : Int} (ha : usableB a l = true) (hb_ : usableB b l = true) (hab : b < a) :
    Calls Tryz.prog 4 #[.int .i64 a, .int .i64 b, .slice A l.length c] w fun e w' => e = .returned (.bool true) ∧ Below w.heap.size w w' := by
 refine V.enter Tryz.func4 rfl rfl (by simp) fun f0 hf => ?_
 have s0 : f0 0 = .int .i64 a := hf 0 (by simp)
 have s1 : f0 1 = .int .i64 b := hf 1 (by simp)
 have s2 : f0 2 = .slice A l.length c := hf 2 (by simp)
 clear hf
 have hb : Below w.heap.size w w := Below.refl _ _
 have w_hl := hl
 have w_hfr := hfr
 refine V.seq ?_
 refine V.reg 1 [V.E (.bool false)] [] (V.i hl (V.i hfr hb)) ?_ ?_
 ·refine V.ac ?_ V.an
  ·exact V.z1 rfl fun h => V.xs rfl
 intro f29 W30 hE31
 clear hl hfr hb
 obtain ⟨⟨hl, hfr, hb⟩, hsz⟩ := hE31.g
 obtain ⟨s0, s1, s2⟩ := V.e3 hE31 s0 s1 s2
 have s6 := V.es hE31 0 6 rfl
 clear hE31 hsz
 refine V.t_done rfl (V.nx (V.seq (V.seq ?_)))
 refine V.reg 2 [V.E (.bool true), V.E (.bool false)] [] (V.i hl (V.i hfr hb)) ?_ ?_
 ·refine V.ac ?_ (V.ac ?_ V.an)
  ·refine V.s2 rfl fun f W h => ?_
   refine V.call en11 (V.args0 ) (Calls.mono (awake_s) ?_)
   rintro e W' ⟨rfl, hb⟩
   exact ⟨_, rfl, rfl, hb⟩
  ·exact V.z1 rfl fun h => V.x_un (V.ed h 0 21 rfl)
 intro f32 W33 hE34
 clear hl hfr hb
 obtain ⟨⟨hl, hfr, hb⟩, hsz⟩ := hE34.g
 obtain ⟨s0, s1, s2, s6⟩ := V.e4 hE34 s0 s1 s2 s6
 have s22 := V.es hE34 1 22 rfl
 clear hE34 hsz
 refine V.t_done rfl (V.nx ?_)
 refine V.cond_f (V.ev_tmp rfl s22) ?_
 refine V.skip ?_
 refine V.nx (V.seq (V.seq ?_))
 refine V.reg 15 [V.E (.int .i64 a), V.E (.slice A l.length c), V.E (.bool true), V.E (.bool false), V.E (.bool false), (V.Gd (!false) (V.E (.int .i64 b))), (V.Gd (!false) (V.E (.slice A l.length c))), (V.Gd (!false) (V.E (.bool true))), (V.Gd (!false) (V.E (.bool false))), V.E (.bool false), V.E (.bool false), (V.Gd (!false) (V.E (.int .i64 b))), (V.Gd (!false) (V.E (.int .i64 a))), (V.Gd (!false) (V.E (.bool true))), V.E (.bool true)] [] (V.i hl (V.i hfr hb)) ?_ ?_
 ·refine V.ac ?_ (V.ac ?_ (V.ac ?_ (V.ac ?_ (V.ac ?_ (V.ac ?_ (V.ac ?_ (V.ac ?_ (V.ac ?_ (V.ac ?_ (V.ac ?_ (V.ac ?_ (V.ac ?_ (V.ac ?_ (V.ac ?_ V.an))))))))))))))
  ·exact V.z1 rfl fun h => V.xm (V.eo h 0 s0)
  ·exact V.z1 rfl fun h => V.xm (V.eo h 2 s2)
  ·refine V.s2 rfl fun f W h => ?_
   refine V.call en12 (V.args2 (V.ed h 0 23 rfl) (V.ed h 1 24 rfl)) (Calls.mono (usable_s h.g.1.1 h.g.1.2.1) ?_)
   rintro e W' ⟨e35, hb⟩
   rw [ha] at e35
   subst e35
   exact ⟨_, rfl, rfl, hb⟩
  ·exact V.z1 rfl fun h => V.x_un (V.ed h 2 25 rfl)
  ·exact V.z1 rfl fun h => V.xm (V.ed h 3 26 rfl)
  ·exact V.gf 4 27 rfl rfl fun hp f W h => V.v1 (V.xm (V.eo h 1 s1))
  ·exact V.gf 4 27 rfl rfl fun hp f W h => V.v1 (V.xm (V.eo h 2 s2))
  ·refine V.gf 4 27 rfl rfl fun hp f W h => ?_
   refine V.call en12 (V.args2 (V.eg h 5 28 rfl hp) (V.eg h 6 29 rfl hp)) (Calls.mono (usable_s h.g.1.1 h.g.1.2.1) ?_)
   rintro e W' ⟨e36, hb⟩
   rw [hb_] at e36
   subst e36
   exact ⟨_, rfl, rfl, hb⟩
  ·exact V.gf 4 27 rfl rfl fun hp f W h => V.v1 (V.x_un (V.eg h 7 30 rfl hp))
  ·refine V.s1 rfl fun f W h => ?_
   have d31 := V.dp h 8 31 (by kernel_rfl) rfl
   exact V.x_pick_f (V.ed h 4 27 rfl) (V.ev_tmp rfl (V.gd_on d31 rfl))
  ·exact V.z1 rfl fun h => V.xm (V.ed h 9 32 rfl)
  ·exact V.gf 10 33 rfl rfl fun hp f W h => V.v1 (V.xm (V.eo h 1 s1))
  ·exact V.gf 10 33 rfl rfl fun hp f W h => V.v1 (V.xm (V.eo h 0 s0))
  ·exact V.gf 10 33 rfl rfl fun hp f W h => V.v1 (V.xb (V.eg h 11 34 rfl hp) (V.eg h 12 35 rfl hp) ((by kernel_rfl : _ = Result.ok (.bool (decide (b < a))) _).trans (by rw [show (decide (b < a)) = true from decide_eq_true hab])))
  ·refine V.s1 rfl fun f W h => ?_
   have d36 := V.dp h 13 36 (by kernel_rfl) rfl
   exact V.x_pick_f (V.ed h 10 33 rfl) (V.ev_tmp rfl (V.gd_on d36 rfl))
 intro f37 W38 hE39
 clear hl hfr hb
 obtain ⟨⟨hl, hfr, hb⟩, hsz⟩ := hE39.g
 obtain ⟨s0, s1, s2, s6⟩ := V.e4 hE39 s0 s1 s2 s6
 have s37 := V.es hE39 14 37 rfl
 clear hE39 hsz
 refine V.t_done rfl (V.nx ?_)
 refine V.cond_t (V.ev_tmp rfl s37) ?_
 refine V.seq ?_
 refine V.reg 1 [V.E (.bool true)] [] (V.i hl (V.i hfr hb)) ?_ ?_
 ·refine V.ac ?_ V.an
  ·exact V.z1 rfl fun h => V.xs rfl
 intro f40 W41 hE42
 clear hl hfr hb
 obtain ⟨⟨hl, hfr, hb⟩, hsz⟩ := hE42.g
 obtain ⟨s0, s1, s2⟩ := V.e3 hE42 s0 s1 s2
 have s6 := V.es hE42 0 6 rfl
 clear hE42 hsz
 refine V.t_done rfl (V.nx (V.ret (V.tr ?_)))
 refine V.leave_any (.inl rfl) (V.res_tmp rfl rfl s6) ?_
 exact ⟨rfl, hb⟩
set_option maxRecDepth 20000 in
set_option maxHeartbeats 2000000 in
theorem more_yes {A : Option Addr} {c : Nat} {l : List Cl} {w : World} (hl : Ls w 6 A l.length c (l.map Cl.cells)) (hfr : ∀ x ∈ l, Fr.ok w x.w) (hV : ValidC l) (h10 : l.length ≤ 10) {a : Int} (h0 : 0 ≤ a) (h1 : a ≤ 1099511627776) {b : Int} (k0 : 0 ≤ b) (k1 : b ≤ 1099511627776) (hab : a ≤ b) :
    Calls Tryz.prog 4 #[.int .i64 a, .int .i64 b, .slice A l.length c] w fun e w' => e = .returned (.bool true) ∧ Below w.heap.size w w' := by
 have h20 : l.length < 20 := by omega
 have hgood := hV.g
 have ta0 := tot_nonneg hgood h0
 have ta1 := tot_le (a := a) (l := l)
 have tb0 := tot_nonneg hgood k0
 have tb1 := tot_le (a := b) (l := l)
 refine V.enter Tryz.func4 rfl rfl (by simp) fun f0 hf => ?_
 have s0 : f0 0 = .int .i64 a := hf 0 (by simp)
 have s1 : f0 1 = .int .i64 b := hf 1 (by simp)
 have s2 : f0 2 = .slice A l.length c := hf 2 (by simp)
 clear hf
 have hb : Below w.heap.size w w := Below.refl _ _
 have w_hl := hl
 have w_hfr := hfr
 refine V.seq ?_
 refine V.reg 1 [V.E (.bool false)] [] (V.i hl (V.i hfr hb)) ?_ ?_
 ·refine V.ac ?_ V.an
  ·exact V.z1 rfl fun h => V.xs rfl
 intro f43 W44 hE45
 clear hl hfr hb
 obtain ⟨⟨hl, hfr, hb⟩, hsz⟩ := hE45.g
 obtain ⟨s0, s1, s2⟩ := V.e3 hE45 s0 s1 s2
 have s6 := V.es hE45 0 6 rfl
 clear hE45 hsz
 refine V.t_done rfl (V.nx (V.seq (V.seq ?_)))
 refine V.reg 2 [V.E (.bool true), V.E (.bool false)] [] (V.i hl (V.i hfr hb)) ?_ ?_
 ·refine V.ac ?_ (V.ac ?_ V.an)
  ·refine V.s2 rfl fun f W h => ?_
   refine V.call en11 (V.args0 ) (Calls.mono (awake_s) ?_)
   rintro e W' ⟨rfl, hb⟩
   exact ⟨_, rfl, rfl, hb⟩
  ·exact V.z1 rfl fun h => V.x_un (V.ed h 0 21 rfl)
 intro f46 W47 hE48
 clear hl hfr hb
 obtain ⟨⟨hl, hfr, hb⟩, hsz⟩ := hE48.g
 obtain ⟨s0, s1, s2, s6⟩ := V.e4 hE48 s0 s1 s2 s6
 have s22 := V.es hE48 1 22 rfl
 clear hE48 hsz
 refine V.t_done rfl (V.nx ?_)
 refine V.cond_f (V.ev_tmp rfl s22) ?_
 refine V.skip ?_
 refine V.nx (V.seq (V.seq ?_))
 refine V.reg 15 [V.E (.int .i64 a), V.E (.slice A l.length c), V.E (.bool true), V.E (.bool false), V.E (.bool false), (V.Gd (!false) (V.E (.int .i64 b))), (V.Gd (!false) (V.E (.slice A l.length c))), (V.Gd (!false) (V.E (.bool true))), (V.Gd (!false) (V.E (.bool false))), V.E (.bool false), V.E (.bool false), (V.Gd (!false) (V.E (.int .i64 b))), (V.Gd (!false) (V.E (.int .i64 a))), (V.Gd (!false) (V.E (.bool false))), V.E (.bool false)] [] (V.i hl (V.i hfr hb)) ?_ ?_
 ·refine V.ac ?_ (V.ac ?_ (V.ac ?_ (V.ac ?_ (V.ac ?_ (V.ac ?_ (V.ac ?_ (V.ac ?_ (V.ac ?_ (V.ac ?_ (V.ac ?_ (V.ac ?_ (V.ac ?_ (V.ac ?_ (V.ac ?_ V.an))))))))))))))
  ·exact V.z1 rfl fun h => V.xm (V.eo h 0 s0)
  ·exact V.z1 rfl fun h => V.xm (V.eo h 2 s2)
  ·refine V.s2 rfl fun f W h => ?_
   refine V.call en12 (V.args2 (V.ed h 0 23 rfl) (V.ed h 1 24 rfl)) (Calls.mono (usable_t h.g.1.1 h.g.1.2.1 hV h10 h0 h1) ?_)
   rintro e W' ⟨rfl, hb⟩
   exact ⟨_, rfl, rfl, hb⟩
  ·exact V.z1 rfl fun h => V.x_un (V.ed h 2 25 rfl)
  ·exact V.z1 rfl fun h => V.xm (V.ed h 3 26 rfl)
  ·exact V.gf 4 27 rfl rfl fun hp f W h => V.v1 (V.xm (V.eo h 1 s1))
  ·exact V.gf 4 27 rfl rfl fun hp f W h => V.v1 (V.xm (V.eo h 2 s2))
  ·refine V.gf 4 27 rfl rfl fun hp f W h => ?_
   refine V.call en12 (V.args2 (V.eg h 5 28 rfl hp) (V.eg h 6 29 rfl hp)) (Calls.mono (usable_t h.g.1.1 h.g.1.2.1 hV h10 k0 k1) ?_)
   rintro e W' ⟨rfl, hb⟩
   exact ⟨_, rfl, rfl, hb⟩
  ·exact V.gf 4 27 rfl rfl fun hp f W h => V.v1 (V.x_un (V.eg h 7 30 rfl hp))
  ·refine V.s1 rfl fun f W h => ?_
   have d31 := V.dp h 8 31 (by kernel_rfl) rfl
   exact V.x_pick_f (V.ed h 4 27 rfl) (V.ev_tmp rfl (V.gd_on d31 rfl))
  ·exact V.z1 rfl fun h => V.xm (V.ed h 9 32 rfl)
  ·exact V.gf 10 33 rfl rfl fun hp f W h => V.v1 (V.xm (V.eo h 1 s1))
  ·exact V.gf 10 33 rfl rfl fun hp f W h => V.v1 (V.xm (V.eo h 0 s0))
  ·exact V.gf 10 33 rfl rfl fun hp f W h => V.v1 (V.xb (V.eg h 11 34 rfl hp) (V.eg h 12 35 rfl hp) ((by kernel_rfl : _ = Result.ok (.bool (decide (b < a))) _).trans (by rw [show (decide (b < a)) = false from decide_eq_false (by omega)])))
  ·refine V.s1 rfl fun f W h => ?_
   have d36 := V.dp h 13 36 (by kernel_rfl) rfl
   exact V.x_pick_f (V.ed h 10 33 rfl) (V.ev_tmp rfl (V.gd_on d36 rfl))
 intro f49 W50 hE51
 clear hl hfr hb
 obtain ⟨⟨hl, hfr, hb⟩, hsz⟩ := hE51.g
 obtain ⟨s0, s1, s2, s6⟩ := V.e4 hE51 s0 s1 s2 s6
 have s37 := V.es hE51 14 37 rfl
 clear hE51 hsz
 refine V.t_done rfl (V.nx ?_)
 refine V.cond_f (V.ev_tmp rfl s37) ?_
 refine V.skip ?_
 refine V.nx (V.seq ?_)
 refine V.reg 7 [V.E (.int .i64 a), V.E (.slice A l.length c), (fun v W => ∃ z52 : Fr, v = .tuple #[z52.v, .int .i64 0] ∧ Fr.ok W z52 ∧ (LevOf a l z52.q)), (fun v W => ∃ z55 : Fr, v = .tuple #[z55.v, .int .i64 0] ∧ Fr.ok W z55 ∧ (LevOf a l z55.q)), (fun v W => ∃ z56 : Fr, v = z56.v ∧ Fr.ok W z56 ∧ (LevOf a l z56.q)), V.E (.int .i64 0), V.Nb W50 39 #[.bool false, .slice none 0 0, .bool false, .slice none 0 0]] [6] (V.i hl (V.i hfr hb)) ?_ ?_
 ·refine V.ac ?_ (V.ac ?_ (V.ac ?_ (V.ac ?_ (V.ac ?_ (V.ac ?_ (V.ac ?_ V.an))))))
  ·exact V.z1 rfl fun h => V.xm (V.eo h 0 s0)
  ·exact V.z1 rfl fun h => V.xm (V.eo h 2 s2)
  ·refine V.s2 rfl fun f W h => ?_
   refine V.call en21 (V.args2 (V.ed h 0 39 rfl) (V.ed h 1 40 rfl)) (Calls.mono (Level_s h.g.1.1 h.g.1.2.1 hV h20 h0 h1) ?_)
   rintro e W' ⟨z52, rfl, k53, e54, hb⟩
   exact ⟨_, rfl, ⟨z52, rfl, k53, e54⟩, hb⟩
  ·refine V.s2 rfl fun f W h => ?_
   obtain ⟨z52, a41, k2_0, p2_0⟩ := V.dp h 2 41 (by kernel_rfl) rfl
   exact V.v2 (.tuple #[z52.v, .int .i64 0]) (V.xm (V.ev_tmp rfl a41)) ⟨z52, rfl, k2_0, p2_0⟩
  ·refine V.s2 rfl fun f W h => ?_
   obtain ⟨z55, a38, k3_0, p3_0⟩ := V.dp h 3 38 (by kernel_rfl) rfl
   exact V.v2 (z55.v) (V.xe (V.ev_tmp rfl a38)) ⟨z55, rfl, k3_0, p3_0⟩
  ·refine V.s1 rfl fun f W h => ?_
   obtain ⟨z55, a38, k3_0, p3_0⟩ := V.dp h 3 38 (by kernel_rfl) rfl
   exact V.xe (V.ev_tmp rfl a38)
  ·exact V.sn rfl fun f W h => V.x_alloc
 have o_bel := hb.size
 have ob_hl := hl.blt
 intro f58 W59 hE60
 clear hl hfr hb
 obtain ⟨⟨hl, hfr, hb⟩, hsz⟩ := hE60.g
 obtain ⟨s0, s1, s2, s6⟩ := V.e4 hE60 s0 s1 s2 s6
 obtain ⟨z56, s42, r61, n62⟩ := V.eq hE60 4 42 rfl
 have s43 := V.es hE60 5 43 rfl
 obtain ⟨g57, s7, b_g57, l_g57⟩ := V.eq hE60 6 7 rfl
 have m_g57 : w.heap.size ≤ g57 := Nat.le_trans o_bel l_g57
 have q_hl_g57 : 0 < l.length → (adr A).block ≠ g57 := fun h => Nat.ne_of_lt (Nat.lt_of_lt_of_le (ob_hl h) l_g57)
 clear hE60 hsz
 clear o_bel ob_hl
 refine V.t_st (k := 7) rfl (V.x_store (V.ev_tmp rfl s7) (V.ev_tmp rfl s42) (V.st_row b_g57)) b_g57 fun W63 hs b' => ?_
 replace hl := hs.ls hl q_hl_g57
 replace hfr := (fun x_0 hx_0 => hs.fr (hfr x_0 hx_0))
 replace hb := hs.bel hb m_g57
 replace r61 := hs.fr r61
 replace b_g57 := b'
 clear hs b'
 refine V.t_val (k := 8) (v := .int .i64 0) (t := 8) rfl rfl rfl (by kernel_rfl) trivial (V.xs (V.ev_tmp rfl s43)) ?_
 intro f64 e65 u66
 replace s0 : f64 0 = .int .i64 a := (u66 0 (by decide)).trans s0
 replace s1 : f64 1 = .int .i64 b := (u66 1 (by decide)).trans s1
 replace s2 : f64 2 = .slice A l.length c := (u66 2 (by decide)).trans s2
 replace s6 : f64 6 = .bool false := (u66 6 (by decide)).trans s6
 replace s42 : f64 42 = z56.v := (u66 42 (by decide)).trans s42
 replace s43 : f64 43 = .int .i64 0 := (u66 43 (by decide)).trans s43
 replace s7 : f64 7 = Vp g57 0 := (u66 7 (by decide)).trans s7
 have s8 := e65
 clear u66
 refine V.t_done rfl (V.nx (V.seq ?_))
 refine V.reg 7 [V.E (.int .i64 b), V.E (.slice A l.length c), (fun v W => ∃ z67 : Fr, v = .tuple #[z67.v, .int .i64 0] ∧ Fr.ok W z67 ∧ (LevOf b l z67.q)), (fun v W => ∃ z70 : Fr, v = .tuple #[z70.v, .int .i64 0] ∧ Fr.ok W z70 ∧ (LevOf b l z70.q)), (fun v W => ∃ z71 : Fr, v = z71.v ∧ Fr.ok W z71 ∧ (LevOf b l z71.q)), V.E (.int .i64 0), V.Nb W63 39 #[.bool false, .slice none 0 0, .bool false, .slice none 0 0]] [6] (V.i hl (V.i hfr (V.i hb (V.i r61 b_g57)))) ?_ ?_
 ·refine V.ac ?_ (V.ac ?_ (V.ac ?_ (V.ac ?_ (V.ac ?_ (V.ac ?_ (V.ac ?_ V.an))))))
  ·exact V.z1 rfl fun h => V.xm (V.eo h 1 s1)
  ·exact V.z1 rfl fun h => V.xm (V.eo h 2 s2)
  ·refine V.s2 rfl fun f W h => ?_
   refine V.call en21 (V.args2 (V.ed h 0 45 rfl) (V.ed h 1 46 rfl)) (Calls.mono (Level_s h.g.1.1 h.g.1.2.1 hV h20 k0 k1) ?_)
   rintro e W' ⟨z67, rfl, k68, e69, hb⟩
   exact ⟨_, rfl, ⟨z67, rfl, k68, e69⟩, hb⟩
  ·refine V.s2 rfl fun f W h => ?_
   obtain ⟨z67, a47, k2_0, p2_0⟩ := V.dp h 2 47 (by kernel_rfl) rfl
   exact V.v2 (.tuple #[z67.v, .int .i64 0]) (V.xm (V.ev_tmp rfl a47)) ⟨z67, rfl, k2_0, p2_0⟩
  ·refine V.s2 rfl fun f W h => ?_
   obtain ⟨z70, a44, k3_0, p3_0⟩ := V.dp h 3 44 (by kernel_rfl) rfl
   exact V.v2 (z70.v) (V.xe (V.ev_tmp rfl a44)) ⟨z70, rfl, k3_0, p3_0⟩
  ·refine V.s1 rfl fun f W h => ?_
   obtain ⟨z70, a44, k3_0, p3_0⟩ := V.dp h 3 44 (by kernel_rfl) rfl
   exact V.xe (V.ev_tmp rfl a44)
  ·exact V.sn rfl fun f W h => V.x_alloc
 have o_g57 := b_g57.lt
 have o_bel := hb.size
 have ob_hl := hl.blt
 intro f73 W74 hE75
 clear hl hfr hb r61 b_g57
 obtain ⟨⟨hl, hfr, hb, r61, b_g57⟩, hsz⟩ := hE75.g
 obtain ⟨s0, s1, s2, s6, s7, s8⟩ := V.e6 hE75 s0 s1 s2 s6 s7 s8
 obtain ⟨z71, s48, r76, n77⟩ := V.eq hE75 4 48 rfl
 have s49 := V.es hE75 5 49 rfl
 obtain ⟨g72, s9, b_g72, l_g72⟩ := V.eq hE75 6 9 rfl
 have m_g72 : w.heap.size ≤ g72 := Nat.le_trans o_bel l_g72
 have q_g57_g72 : g57 ≠ g72 := by omega
 have q_hl_g72 : 0 < l.length → (adr A).block ≠ g72 := fun h => Nat.ne_of_lt (Nat.lt_of_lt_of_le (ob_hl h) l_g72)
 clear hE75 hsz
 clear o_bel o_g57 ob_hl
 refine V.t_st (k := 7) rfl (V.x_store (V.ev_tmp rfl s9) (V.ev_tmp rfl s48) (V.st_row b_g72)) b_g72 fun W78 hs b' => ?_
 replace hl := hs.ls hl q_hl_g72
 replace hfr := (fun x_0 hx_0 => hs.fr (hfr x_0 hx_0))
 replace hb := hs.bel hb m_g72
 replace r61 := hs.fr r61
 replace b_g57 := hs.blk b_g57 q_g57_g72
 replace r76 := hs.fr r76
 replace b_g72 := b'
 clear hs b'
 refine V.t_val (k := 8) (v := .int .i64 0) (t := 10) rfl rfl rfl (by kernel_rfl) trivial (V.xs (V.ev_tmp rfl s49)) ?_
 intro f79 e80 u81
 replace s0 : f79 0 = .int .i64 a := (u81 0 (by decide)).trans s0
 replace s1 : f79 1 = .int .i64 b := (u81 1 (by decide)).trans s1
 replace s2 : f79 2 = .slice A l.length c := (u81 2 (by decide)).trans s2
 replace s6 : f79 6 = .bool false := (u81 6 (by decide)).trans s6
 replace s7 : f79 7 = Vp g57 0 := (u81 7 (by decide)).trans s7
 replace s8 : f79 8 = .int .i64 0 := (u81 8 (by decide)).trans s8
 replace s48 : f79 48 = z71.v := (u81 48 (by decide)).trans s48
 replace s49 : f79 49 = .int .i64 0 := (u81 49 (by decide)).trans s49
 replace s9 : f79 9 = Vp g72 0 := (u81 9 (by decide)).trans s9
 have s10 := e80
 clear u81
 refine V.t_done rfl ?_
 have hla := n62.is hgood h0
 have hlb := n77.is hgood k0
 have hle := hla.mono hlb hgood hab
 have hza := n62.sz h1 hgood h20
 have hzb := n77.sz k1 hgood h20
 refine V.nx (V.seq ?_)
 refine V.reg 8 [V.E (.int .i64 a), V.E (.slice A l.length c), (fun v W => ∃ g82 : Nat, ∃ xs83 : List Fr, ∃ t84 : Rat, v = .tuple #[.slice (some ⟨g82, 0, none⟩) l.length l.length, .int .i64 0] ∧ Own W g82 39 4 (xs83.map Fr.cells) ([]) ∧ (∀ x ∈ xs83, Fr.ok W x) ∧ (LevOf a l t84) ∧ (ExP l t84 xs83) ∧ (w.heap.size ≤ g82) ∧ (W78.heap.size ≤ g82)), (fun v W => ∃ g90 : Nat, ∃ xs91 : List Fr, ∃ t92 : Rat, v = .tuple #[.slice (some ⟨g90, 0, none⟩) l.length l.length, .int .i64 0] ∧ Own W g90 39 4 (xs91.map Fr.cells) ([]) ∧ (∀ x ∈ xs91, Fr.ok W x) ∧ (LevOf a l t92) ∧ (ExP l t92 xs91) ∧ (w.heap.size ≤ g90) ∧ (W78.heap.size ≤ g90)), (fun v W => ∃ g93 : Nat, ∃ xs94 : List Fr, ∃ t95 : Rat, v = .slice (some ⟨g93, 0, none⟩) l.length l.length ∧ Own W g93 39 4 (xs94.map Fr.cells) ([]) ∧ (∀ x ∈ xs94, Fr.ok W x) ∧ (LevOf a l t95) ∧ (ExP l t95 xs94) ∧ (w.heap.size ≤ g93) ∧ (W78.heap.size ≤ g93)), V.E (.int .i64 0), (fun v W => ∃ g96 : Nat, ∃ xs97 : List Fr, ∃ t98 : Rat, v = .slice (some ⟨g96, 0, none⟩) l.length l.length ∧ Own W g96 39 4 (xs97.map Fr.cells) ([]) ∧ (∀ x ∈ xs97, Fr.ok W x) ∧ (LevOf a l t98) ∧ (ExP l t98 xs97) ∧ (w.heap.size ≤ g96) ∧ (W78.heap.size ≤ g96)), V.E (.int .i64 0)] [] (V.i hl (V.i hfr (V.i hb (V.i r61 (V.i b_g57 (V.i r76 b_g72)))))) ?_ ?_
 ·refine V.ac ?_ (V.ac ?_ (V.ac ?_ (V.ac ?_ (V.ac ?_ (V.ac ?_ (V.ac ?_ (V.ac ?_ V.an)))))))
  ·exact V.z1 rfl fun h => V.xm (V.eo h 0 s0)
  ·exact V.z1 rfl fun h => V.xm (V.eo h 2 s2)
  ·refine V.s2 rfl fun f W h => ?_
   refine V.call en14 (V.args2 (V.ed h 0 51 rfl) (V.ed h 1 52 rfl)) (Calls.mono (Exact_s h.g.1.1 h.g.1.2.1 hV h20 h0 h1) ?_)
   rintro e W' ⟨g82, xs83, t84, rfl, p85, p86, p87, p88, p89, hb⟩
   exact ⟨_, rfl, ⟨g82, xs83, t84, rfl, p87, p88, p85, p86, Nat.le_trans h.g.1.2.2.1.size p89, Nat.le_trans h.g.2 p89⟩, hb⟩
  ·refine V.s2 rfl fun f W h => ?_
   obtain ⟨g82, xs83, t84, a53, k2_0, k2_1, p2_0, p2_1, p2_2, p2_3⟩ := V.dp h 2 53 (by kernel_rfl) rfl
   exact V.v2 (.tuple #[.slice (some ⟨g82, 0, none⟩) l.length l.length, .int .i64 0]) (V.xm (V.ev_tmp rfl a53)) ⟨g82, xs83, t84, rfl, k2_0, k2_1, p2_0, p2_1, p2_2, p2_3⟩
  ·refine V.s2 rfl fun f W h => ?_
   obtain ⟨g90, xs91, t92, a50, k3_0, k3_1, p3_0, p3_1, p3_2, p3_3⟩ := V.dp h 3 50 (by kernel_rfl) rfl
   exact V.v2 (.slice (some ⟨g90, 0, none⟩) l.length l.length) (V.xe (V.ev_tmp rfl a50)) ⟨g90, xs91, t92, rfl, k3_0, k3_1, p3_0, p3_1, p3_2, p3_3⟩
  ·refine V.s1 rfl fun f W h => ?_
   obtain ⟨g90, xs91, t92, a50, k3_0, k3_1, p3_0, p3_1, p3_2, p3_3⟩ := V.dp h 3 50 (by kernel_rfl) rfl
   exact V.xe (V.ev_tmp rfl a50)
  ·refine V.s2 rfl fun f W h => ?_
   obtain ⟨g93, xs94, t95, a54, k4_0, k4_1, p4_0, p4_1, p4_2, p4_3⟩ := V.dp h 4 54 (by kernel_rfl) rfl
   exact V.v2 (.slice (some ⟨g93, 0, none⟩) l.length l.length) (V.xs (V.ev_tmp rfl a54)) ⟨g93, xs94, t95, rfl, k4_0, k4_1, p4_0, p4_1, p4_2, p4_3⟩
  ·exact V.z1 rfl fun h => V.xs (V.ed h 5 55 rfl)
 have o_g57 := b_g57.lt
 have o_g72 := b_g72.lt
 intro f99 W100 hE101
 clear hl hfr hb r61 b_g57 r76 b_g72
 obtain ⟨⟨hl, hfr, hb, r61, b_g57, r76, b_g72⟩, hsz⟩ := hE101.g
 obtain ⟨s0, s1, s2, s6, s7, s8, s9, s10⟩ := V.e8 hE101 s0 s1 s2 s6 s7 s8 s9 s10
 obtain ⟨g96, xs97, t98, s11, r102, r103, n104, n105, n106, n107⟩ := V.eq hE101 6 11 rfl
 have s12 := V.es hE101 7 12 rfl
 clear hE101 hsz
 clear o_g57 o_g72
 refine V.t_done rfl ?_
 have hta := (n104.is hgood h0).uniq hla hgood
 refine V.nx (V.seq ?_)
 refine V.reg 8 [V.E (.int .i64 b), V.E (.slice A l.length c), (fun v W => ∃ g111 : Nat, ∃ xs112 : List Fr, ∃ t113 : Rat, v = .tuple #[.slice (some ⟨g111, 0, none⟩) l.length l.length, .int .i64 0] ∧ Own W g111 39 4 (xs112.map Fr.cells) ([]) ∧ (∀ x ∈ xs112, Fr.ok W x) ∧ (LevOf b l t113) ∧ (ExP l t113 xs112) ∧ (w.heap.size ≤ g111) ∧ (W100.heap.size ≤ g111)), (fun v W => ∃ g119 : Nat, ∃ xs120 : List Fr, ∃ t121 : Rat, v = .tuple #[.slice (some ⟨g119, 0, none⟩) l.length l.length, .int .i64 0] ∧ Own W g119 39 4 (xs120.map Fr.cells) ([]) ∧ (∀ x ∈ xs120, Fr.ok W x) ∧ (LevOf b l t121) ∧ (ExP l t121 xs120) ∧ (w.heap.size ≤ g119) ∧ (W100.heap.size ≤ g119)), (fun v W => ∃ g122 : Nat, ∃ xs123 : List Fr, ∃ t124 : Rat, v = .slice (some ⟨g122, 0, none⟩) l.length l.length ∧ Own W g122 39 4 (xs123.map Fr.cells) ([]) ∧ (∀ x ∈ xs123, Fr.ok W x) ∧ (LevOf b l t124) ∧ (ExP l t124 xs123) ∧ (w.heap.size ≤ g122) ∧ (W100.heap.size ≤ g122)), V.E (.int .i64 0), (fun v W => ∃ g125 : Nat, ∃ xs126 : List Fr, ∃ t127 : Rat, v = .slice (some ⟨g125, 0, none⟩) l.length l.length ∧ Own W g125 39 4 (xs126.map Fr.cells) ([]) ∧ (∀ x ∈ xs126, Fr.ok W x) ∧ (LevOf b l t127) ∧ (ExP l t127 xs126) ∧ (w.heap.size ≤ g125) ∧ (W100.heap.size ≤ g125)), V.E (.int .i64 0)] [] (V.i hl (V.i hfr (V.i hb (V.i r61 (V.i b_g57 (V.i r76 (V.i b_g72 (V.i r102 r103)))))))) ?_ ?_
 ·refine V.ac ?_ (V.ac ?_ (V.ac ?_ (V.ac ?_ (V.ac ?_ (V.ac ?_ (V.ac ?_ (V.ac ?_ V.an)))))))
  ·exact V.z1 rfl fun h => V.xm (V.eo h 1 s1)
  ·exact V.z1 rfl fun h => V.xm (V.eo h 2 s2)
  ·refine V.s2 rfl fun f W h => ?_
   refine V.call en14 (V.args2 (V.ed h 0 57 rfl) (V.ed h 1 58 rfl)) (Calls.mono (Exact_s h.g.1.1 h.g.1.2.1 hV h20 k0 k1) ?_)
   rintro e W' ⟨g111, xs112, t113, rfl, p114, p115, p116, p117, p118, hb⟩
   exact ⟨_, rfl, ⟨g111, xs112, t113, rfl, p116, p117, p114, p115, Nat.le_trans h.g.1.2.2.1.size p118, Nat.le_trans h.g.2 p118⟩, hb⟩
  ·refine V.s2 rfl fun f W h => ?_
   obtain ⟨g111, xs112, t113, a59, k2_0, k2_1, p2_0, p2_1, p2_2, p2_3⟩ := V.dp h 2 59 (by kernel_rfl) rfl
   exact V.v2 (.tuple #[.slice (some ⟨g111, 0, none⟩) l.length l.length, .int .i64 0]) (V.xm (V.ev_tmp rfl a59)) ⟨g111, xs112, t113, rfl, k2_0, k2_1, p2_0, p2_1, p2_2, p2_3⟩
  ·refine V.s2 rfl fun f W h => ?_
   obtain ⟨g119, xs120, t121, a56, k3_0, k3_1, p3_0, p3_1, p3_2, p3_3⟩ := V.dp h 3 56 (by kernel_rfl) rfl
   exact V.v2 (.slice (some ⟨g119, 0, none⟩) l.length l.length) (V.xe (V.ev_tmp rfl a56)) ⟨g119, xs120, t121, rfl, k3_0, k3_1, p3_0, p3_1, p3_2, p3_3⟩
  ·refine V.s1 rfl fun f W h => ?_
   obtain ⟨g119, xs120, t121, a56, k3_0, k3_1, p3_0, p3_1, p3_2, p3_3⟩ := V.dp h 3 56 (by kernel_rfl) rfl
   exact V.xe (V.ev_tmp rfl a56)
  ·refine V.s2 rfl fun f W h => ?_
   obtain ⟨g122, xs123, t124, a60, k4_0, k4_1, p4_0, p4_1, p4_2, p4_3⟩ := V.dp h 4 60 (by kernel_rfl) rfl
   exact V.v2 (.slice (some ⟨g122, 0, none⟩) l.length l.length) (V.xs (V.ev_tmp rfl a60)) ⟨g122, xs123, t124, rfl, k4_0, k4_1, p4_0, p4_1, p4_2, p4_3⟩
  ·exact V.z1 rfl fun h => V.xs (V.ed h 5 61 rfl)
 have o_g57 := b_g57.lt
 have o_g72 := b_g72.lt
 have o_g96 := r102.blk.lt
 intro f128 W129 hE130
 clear hl hfr hb r61 b_g57 r76 b_g72 r102 r103
 obtain ⟨⟨hl, hfr, hb, r61, b_g57, r76, b_g72, r102, r103⟩, hsz⟩ := hE130.g
 obtain ⟨s0, s1, s2, s6, s7, s8, s9, s10, s11⟩ := V.e9 hE130 s0 s1 s2 s6 s7 s8 s9 s10 s11
 replace s12 := V.e1 hE130 s12
 obtain ⟨g125, xs126, t127, s13, r131, r132, n133, n134, n135, n136⟩ := V.eq hE130 6 13 rfl
 have s14 := V.es hE130 7 14 rfl
 clear hE130 hsz
 clear o_g57 o_g72 o_g96
 refine V.t_done rfl ?_
 have htb := (n133.is hgood k0).uniq hlb hgood
 refine V.nx (V.seq ?_)
 refine V.reg 8 [V.E (.int .i64 a), V.E (.slice A l.length c), (fun v W => ∃ g141 : Nat, ∃ t142 : Rat, ∃ ys143 : List Nat, ∃ m144 : Nat, ∃ rs145 : List Int, v = .tuple #[.slice (some ⟨g141, 0, none⟩) l.length l.length, .int .i64 0] ∧ Own W g141 3 1 (rs145.map IntC) ([]) ∧ (PartsOf a l t142 ys143 m144 rs145) ∧ (w.heap.size ≤ g141) ∧ (W129.heap.size ≤ g141)), (fun v W => ∃ g149 : Nat, ∃ t150 : Rat, ∃ ys151 : List Nat, ∃ m152 : Nat, ∃ rs153 : List Int, v = .tuple #[.slice (some ⟨g149, 0, none⟩) l.length l.length, .int .i64 0] ∧ Own W g149 3 1 (rs153.map IntC) ([]) ∧ (PartsOf a l t150 ys151 m152 rs153) ∧ (w.heap.size ≤ g149) ∧ (W129.heap.size ≤ g149)), (fun v W => ∃ g154 : Nat, ∃ t155 : Rat, ∃ ys156 : List Nat, ∃ m157 : Nat, ∃ rs158 : List Int, v = .slice (some ⟨g154, 0, none⟩) l.length l.length ∧ Own W g154 3 1 (rs158.map IntC) ([]) ∧ (PartsOf a l t155 ys156 m157 rs158) ∧ (w.heap.size ≤ g154) ∧ (W129.heap.size ≤ g154)), V.E (.int .i64 0), (fun v W => ∃ g159 : Nat, ∃ t160 : Rat, ∃ ys161 : List Nat, ∃ m162 : Nat, ∃ rs163 : List Int, v = .slice (some ⟨g159, 0, none⟩) l.length l.length ∧ Own W g159 3 1 (rs163.map IntC) ([]) ∧ (PartsOf a l t160 ys161 m162 rs163) ∧ (w.heap.size ≤ g159) ∧ (W129.heap.size ≤ g159)), V.E (.int .i64 0)] [] (V.i hl (V.i hfr (V.i hb (V.i r61 (V.i b_g57 (V.i r76 (V.i b_g72 (V.i r102 (V.i r103 (V.i r131 r132)))))))))) ?_ ?_
 ·refine V.ac ?_ (V.ac ?_ (V.ac ?_ (V.ac ?_ (V.ac ?_ (V.ac ?_ (V.ac ?_ (V.ac ?_ V.an)))))))
  ·exact V.z1 rfl fun h => V.xm (V.eo h 0 s0)
  ·exact V.z1 rfl fun h => V.xm (V.eo h 2 s2)
  ·refine V.s2 rfl fun f W h => ?_
   refine V.call en13 (V.args2 (V.ed h 0 63 rfl) (V.ed h 1 64 rfl)) (Calls.mono (Parts_n rfl h.g.1.1 h.g.1.2.1 hV h10 h0 h1) ?_)
   rintro e W' ⟨g141, t142, ys143, m144, rs145, rfl, p146, p147, p148, hb⟩
   exact ⟨_, rfl, ⟨g141, t142, ys143, m144, rs145, rfl, p147, p146, Nat.le_trans h.g.1.2.2.1.size p148, Nat.le_trans h.g.2 p148⟩, hb⟩
  ·refine V.s2 rfl fun f W h => ?_
   obtain ⟨g141, t142, ys143, m144, rs145, a65, k2_0, p2_0, p2_1, p2_2⟩ := V.dp h 2 65 (by kernel_rfl) rfl
   exact V.v2 (.tuple #[.slice (some ⟨g141, 0, none⟩) l.length l.length, .int .i64 0]) (V.xm (V.ev_tmp rfl a65)) ⟨g141, t142, ys143, m144, rs145, rfl, k2_0, p2_0, p2_1, p2_2⟩
  ·refine V.s2 rfl fun f W h => ?_
   obtain ⟨g149, t150, ys151, m152, rs153, a62, k3_0, p3_0, p3_1, p3_2⟩ := V.dp h 3 62 (by kernel_rfl) rfl
   exact V.v2 (.slice (some ⟨g149, 0, none⟩) l.length l.length) (V.xe (V.ev_tmp rfl a62)) ⟨g149, t150, ys151, m152, rs153, rfl, k3_0, p3_0, p3_1, p3_2⟩
  ·refine V.s1 rfl fun f W h => ?_
   obtain ⟨g149, t150, ys151, m152, rs153, a62, k3_0, p3_0, p3_1, p3_2⟩ := V.dp h 3 62 (by kernel_rfl) rfl
   exact V.xe (V.ev_tmp rfl a62)
  ·refine V.s2 rfl fun f W h => ?_
   obtain ⟨g154, t155, ys156, m157, rs158, a66, k4_0, p4_0, p4_1, p4_2⟩ := V.dp h 4 66 (by kernel_rfl) rfl
   exact V.v2 (.slice (some ⟨g154, 0, none⟩) l.length l.length) (V.xs (V.ev_tmp rfl a66)) ⟨g154, t155, ys156, m157, rs158, rfl, k4_0, p4_0, p4_1, p4_2⟩
  ·exact V.z1 rfl fun h => V.xs (V.ed h 5 67 rfl)
 have o_g57 := b_g57.lt
 have o_g72 := b_g72.lt
 have o_g96 := r102.blk.lt
 have o_g125 := r131.blk.lt
 intro f164 W165 hE166
 clear hl hfr hb r61 b_g57 r76 b_g72 r102 r103 r131 r132
 obtain ⟨⟨hl, hfr, hb, r61, b_g57, r76, b_g72, r102, r103, r131, r132⟩, hsz⟩ := hE166.g
 obtain ⟨s0, s1, s2, s6, s7, s8, s9, s10, s11⟩ := V.e9 hE166 s0 s1 s2 s6 s7 s8 s9 s10 s11
 obtain ⟨s12, s13, s14⟩ := V.e3 hE166 s12 s13 s14
 obtain ⟨g159, t160, ys161, m162, rs163, s15, r167, n168, n169, n170⟩ := V.eq hE166 6 15 rfl
 have s16 := V.es hE166 7 16 rfl
 clear hE166 hsz
 clear o_g57 o_g72 o_g96 o_g125
 refine V.t_done rfl (V.nx (V.seq ?_))
 refine V.reg 8 [V.E (.int .i64 b), V.E (.slice A l.length c), (fun v W => ∃ g176 : Nat, ∃ t177 : Rat, ∃ ys178 : List Nat, ∃ m179 : Nat, ∃ rs180 : List Int, v = .tuple #[.slice (some ⟨g176, 0, none⟩) l.length l.length, .int .i64 0] ∧ Own W g176 3 1 (rs180.map IntC) ([]) ∧ (PartsOf b l t177 ys178 m179 rs180) ∧ (w.heap.size ≤ g176) ∧ (W165.heap.size ≤ g176)), (fun v W => ∃ g184 : Nat, ∃ t185 : Rat, ∃ ys186 : List Nat, ∃ m187 : Nat, ∃ rs188 : List Int, v = .tuple #[.slice (some ⟨g184, 0, none⟩) l.length l.length, .int .i64 0] ∧ Own W g184 3 1 (rs188.map IntC) ([]) ∧ (PartsOf b l t185 ys186 m187 rs188) ∧ (w.heap.size ≤ g184) ∧ (W165.heap.size ≤ g184)), (fun v W => ∃ g189 : Nat, ∃ t190 : Rat, ∃ ys191 : List Nat, ∃ m192 : Nat, ∃ rs193 : List Int, v = .slice (some ⟨g189, 0, none⟩) l.length l.length ∧ Own W g189 3 1 (rs193.map IntC) ([]) ∧ (PartsOf b l t190 ys191 m192 rs193) ∧ (w.heap.size ≤ g189) ∧ (W165.heap.size ≤ g189)), V.E (.int .i64 0), (fun v W => ∃ g194 : Nat, ∃ t195 : Rat, ∃ ys196 : List Nat, ∃ m197 : Nat, ∃ rs198 : List Int, v = .slice (some ⟨g194, 0, none⟩) l.length l.length ∧ Own W g194 3 1 (rs198.map IntC) ([]) ∧ (PartsOf b l t195 ys196 m197 rs198) ∧ (w.heap.size ≤ g194) ∧ (W165.heap.size ≤ g194)), V.E (.int .i64 0)] [] (V.i hl (V.i hfr (V.i hb (V.i r61 (V.i b_g57 (V.i r76 (V.i b_g72 (V.i r102 (V.i r103 (V.i r131 (V.i r132 r167))))))))))) ?_ ?_
 ·refine V.ac ?_ (V.ac ?_ (V.ac ?_ (V.ac ?_ (V.ac ?_ (V.ac ?_ (V.ac ?_ (V.ac ?_ V.an)))))))
  ·exact V.z1 rfl fun h => V.xm (V.eo h 1 s1)
  ·exact V.z1 rfl fun h => V.xm (V.eo h 2 s2)
  ·refine V.s2 rfl fun f W h => ?_
   refine V.call en13 (V.args2 (V.ed h 0 69 rfl) (V.ed h 1 70 rfl)) (Calls.mono (Parts_n rfl h.g.1.1 h.g.1.2.1 hV h10 k0 k1) ?_)
   rintro e W' ⟨g176, t177, ys178, m179, rs180, rfl, p181, p182, p183, hb⟩
   exact ⟨_, rfl, ⟨g176, t177, ys178, m179, rs180, rfl, p182, p181, Nat.le_trans h.g.1.2.2.1.size p183, Nat.le_trans h.g.2 p183⟩, hb⟩
  ·refine V.s2 rfl fun f W h => ?_
   obtain ⟨g176, t177, ys178, m179, rs180, a71, k2_0, p2_0, p2_1, p2_2⟩ := V.dp h 2 71 (by kernel_rfl) rfl
   exact V.v2 (.tuple #[.slice (some ⟨g176, 0, none⟩) l.length l.length, .int .i64 0]) (V.xm (V.ev_tmp rfl a71)) ⟨g176, t177, ys178, m179, rs180, rfl, k2_0, p2_0, p2_1, p2_2⟩
  ·refine V.s2 rfl fun f W h => ?_
   obtain ⟨g184, t185, ys186, m187, rs188, a68, k3_0, p3_0, p3_1, p3_2⟩ := V.dp h 3 68 (by kernel_rfl) rfl
   exact V.v2 (.slice (some ⟨g184, 0, none⟩) l.length l.length) (V.xe (V.ev_tmp rfl a68)) ⟨g184, t185, ys186, m187, rs188, rfl, k3_0, p3_0, p3_1, p3_2⟩
  ·refine V.s1 rfl fun f W h => ?_
   obtain ⟨g184, t185, ys186, m187, rs188, a68, k3_0, p3_0, p3_1, p3_2⟩ := V.dp h 3 68 (by kernel_rfl) rfl
   exact V.xe (V.ev_tmp rfl a68)
  ·refine V.s2 rfl fun f W h => ?_
   obtain ⟨g189, t190, ys191, m192, rs193, a72, k4_0, p4_0, p4_1, p4_2⟩ := V.dp h 4 72 (by kernel_rfl) rfl
   exact V.v2 (.slice (some ⟨g189, 0, none⟩) l.length l.length) (V.xs (V.ev_tmp rfl a72)) ⟨g189, t190, ys191, m192, rs193, rfl, k4_0, p4_0, p4_1, p4_2⟩
  ·exact V.z1 rfl fun h => V.xs (V.ed h 5 73 rfl)
 have o_g57 := b_g57.lt
 have o_g72 := b_g72.lt
 have o_g96 := r102.blk.lt
 have o_g125 := r131.blk.lt
 have o_g159 := r167.blk.lt
 intro f199 W200 hE201
 clear hl hfr hb r61 b_g57 r76 b_g72 r102 r103 r131 r132 r167
 obtain ⟨⟨hl, hfr, hb, r61, b_g57, r76, b_g72, r102, r103, r131, r132, r167⟩, hsz⟩ := hE201.g
 obtain ⟨s0, s1, s2, s6, s7, s8, s9, s10, s11⟩ := V.e9 hE201 s0 s1 s2 s6 s7 s8 s9 s10 s11
 obtain ⟨s12, s13, s14, s15, s16⟩ := V.e5 hE201 s12 s13 s14 s15 s16
 obtain ⟨g194, t195, ys196, m197, rs198, s17, r202, n203, n204, n205⟩ := V.eq hE201 6 17 rfl
 have s18 := V.es hE201 7 18 rfl
 clear hE201 hsz
 clear o_g57 o_g72 o_g96 o_g125 o_g159
 refine V.t_done rfl (V.nx (V.seq (V.seq ?_)))
 refine V.reg 56 [V.E (.int .i64 0), V.E (.bool false), V.E (.bool false), (V.Gd (!false) (V.E (.int .i64 0))), (V.Gd (!false) (V.E (.bool false))), V.E (.bool false), V.E (.bool false), (V.Gd (!false) (V.E (.int .i64 0))), (V.Gd (!false) (V.E (.bool false))), V.E (.bool false), V.E (.bool false), (V.Gd (!false) (V.E (.int .i64 0))), (V.Gd (!false) (V.E (.bool false))), V.E (.bool false), V.E (.bool false), (V.Gd (!false) (V.E (.int .i64 0))), (V.Gd (!false) (V.E (.bool false))), V.E (.bool false), V.E (.bool false), (V.Gd (!false) (V.E (.int .i64 0))), (V.Gd (!false) (V.E (.bool false))), V.E (.bool false), V.E (.bool false), (V.Gd (!false) (V.E (.slice (some ⟨g96, 0, none⟩) l.length l.length))), (V.Gd (!false) (V.E (.int .i64 (l.length : Int)))), (V.Gd (!false) (V.E (.slice A l.length c))), (V.Gd (!false) (V.E (.int .i64 (l.length : Int)))), (V.Gd (!false) (V.E (.bool false))), V.E (.bool false), V.E (.bool false), (V.Gd (!false) (V.E (.slice (some ⟨g125, 0, none⟩) l.length l.length))), (V.Gd (!false) (V.E (.int .i64 (l.length : Int)))), (V.Gd (!false) (V.E (.slice A l.length c))), (V.Gd (!false) (V.E (.int .i64 (l.length : Int)))), (V.Gd (!false) (V.E (.bool false))), V.E (.bool false), V.E (.bool false), (V.Gd (!false) (V.E (.slice (some ⟨g159, 0, none⟩) l.length l.length))), (V.Gd (!false) (V.E (.int .i64 (l.length : Int)))), (V.Gd (!false) (V.E (.slice A l.length c))), (V.Gd (!false) (V.E (.int .i64 (l.length : Int)))), (V.Gd (!false) (V.E (.bool false))), V.E (.bool false), V.E (.bool false), (V.Gd (!false) (V.E (.slice (some ⟨g194, 0, none⟩) l.length l.length))), (V.Gd (!false) (V.E (.int .i64 (l.length : Int)))), (V.Gd (!false) (V.E (.slice A l.length c))), (V.Gd (!false) (V.E (.int .i64 (l.length : Int)))), (V.Gd (!false) (V.E (.bool false))), V.E (.bool false), V.E (.bool false), (V.Gd (!false) (V.E (z56.v))), (V.Gd (!false) (V.E (z71.v))), (V.Gd (!false) (V.E (.int .i64 (Q.cmp z56.q z71.q)))), (V.Gd (!false) (V.E (.bool false))), V.E (.bool false)] [] (V.i hl (V.i hfr (V.i hb (V.i r61 (V.i b_g57 (V.i r76 (V.i b_g72 (V.i r102 (V.i r103 (V.i r131 (V.i r132 (V.i r167 r202)))))))))))) ?_ ?_
 ·refine V.ac ?_ (V.ac ?_ (V.ac ?_ (V.ac ?_ (V.ac ?_ (V.ac ?_ (V.ac ?_ (V.ac ?_ (V.ac ?_ (V.ac ?_ (V.ac ?_ (V.ac ?_ (V.ac ?_ (V.ac ?_ (V.ac ?_ (V.ac ?_ (V.ac ?_ (V.ac ?_ (V.ac ?_ (V.ac ?_ (V.ac ?_ (V.ac ?_ (V.ac ?_ (V.ac ?_ (V.ac ?_ (V.ac ?_ (V.ac ?_ (V.ac ?_ (V.ac ?_ (V.ac ?_ (V.ac ?_ (V.ac ?_ (V.ac ?_ (V.ac ?_ (V.ac ?_ (V.ac ?_ (V.ac ?_ (V.ac ?_ (V.ac ?_ (V.ac ?_ (V.ac ?_ (V.ac ?_ (V.ac ?_ (V.ac ?_ (V.ac ?_ (V.ac ?_ (V.ac ?_ (V.ac ?_ (V.ac ?_ (V.ac ?_ (V.ac ?_ (V.ac ?_ (V.ac ?_ (V.ac ?_ (V.ac ?_ (V.ac ?_ V.an)))))))))))))))))))))))))))))))))))))))))))))))))))))))
  ·exact V.z1 rfl fun h => V.xm (V.eo h 8 s8)
  ·exact V.z1 rfl fun h => V.xb (V.ed h 0 74 rfl) rfl
  ·exact V.z1 rfl fun h => V.xm (V.ed h 1 75 rfl)
  ·exact V.gf 2 76 rfl rfl fun hp f W h => V.v1 (V.xm (V.eo h 10 s10))
  ·exact V.gf 2 76 rfl rfl fun hp f W h => V.v1 (V.xb (V.eg h 3 77 rfl hp) rfl)
  ·refine V.s1 rfl fun f W h => ?_
   have d78 := V.dp h 4 78 (by kernel_rfl) rfl
   exact V.x_pick_f (V.ed h 2 76 rfl) (V.ev_tmp rfl (V.gd_on d78 rfl))
  ·exact V.z1 rfl fun h => V.xm (V.ed h 5 79 rfl)
  ·exact V.gf 6 80 rfl rfl fun hp f W h => V.v1 (V.xm (V.eo h 12 s12))
  ·exact V.gf 6 80 rfl rfl fun hp f W h => V.v1 (V.xb (V.eg h 7 81 rfl hp) rfl)
  ·refine V.s1 rfl fun f W h => ?_
   have d82 := V.dp h 8 82 (by kernel_rfl) rfl
   exact V.x_pick_f (V.ed h 6 80 rfl) (V.ev_tmp rfl (V.gd_on d82 rfl))
  ·exact V.z1 rfl fun h => V.xm (V.ed h 9 83 rfl)
  ·exact V.gf 10 84 rfl rfl fun hp f W h => V.v1 (V.xm (V.eo h 14 s14))
  ·exact V.gf 10 84 rfl rfl fun hp f W h => V.v1 (V.xb (V.eg h 11 85 rfl hp) rfl)
  ·refine V.s1 rfl fun f W h => ?_
   have d86 := V.dp h 12 86 (by kernel_rfl) rfl
   exact V.x_pick_f (V.ed h 10 84 rfl) (V.ev_tmp rfl (V.gd_on d86 rfl))
  ·exact V.z1 rfl fun h => V.xm (V.ed h 13 87 rfl)
  ·exact V.gf 14 88 rfl rfl fun hp f W h => V.v1 (V.xm (V.eo h 16 s16))
  ·exact V.gf 14 88 rfl rfl fun hp f W h => V.v1 (V.xb (V.eg h 15 89 rfl hp) rfl)
  ·refine V.s1 rfl fun f W h => ?_
   have d90 := V.dp h 16 90 (by kernel_rfl) rfl
   exact V.x_pick_f (V.ed h 14 88 rfl) (V.ev_tmp rfl (V.gd_on d90 rfl))
  ·exact V.z1 rfl fun h => V.xm (V.ed h 17 91 rfl)
  ·exact V.gf 18 92 rfl rfl fun hp f W h => V.v1 (V.xm (V.eo h 18 s18))
  ·exact V.gf 18 92 rfl rfl fun hp f W h => V.v1 (V.xb (V.eg h 19 93 rfl hp) rfl)
  ·refine V.s1 rfl fun f W h => ?_
   have d94 := V.dp h 20 94 (by kernel_rfl) rfl
   exact V.x_pick_f (V.ed h 18 92 rfl) (V.ev_tmp rfl (V.gd_on d94 rfl))
  ·exact V.z1 rfl fun h => V.xm (V.ed h 21 95 rfl)
  ·exact V.gf 22 96 rfl rfl fun hp f W h => V.v1 (V.xm (V.eo h 11 s11))
  ·exact V.gf 22 96 rfl rfl fun hp f W h => V.v1 (V.x_len (V.eg h 23 97 rfl hp))
  ·exact V.gf 22 96 rfl rfl fun hp f W h => V.v1 (V.xm (V.eo h 2 s2))
  ·exact V.gf 22 96 rfl rfl fun hp f W h => V.v1 (V.x_len (V.eg h 25 99 rfl hp))
  ·exact V.gf 22 96 rfl rfl fun hp f W h => V.v1 (V.xb (V.eg h 24 98 rfl hp) (V.eg h 26 100 rfl hp) ((by kernel_rfl : _ = Result.ok (.bool ((l.length : Int) != (l.length : Int))) _).trans (by rw [bne_self_eq_false])))
  ·refine V.s1 rfl fun f W h => ?_
   have d101 := V.dp h 27 101 (by kernel_rfl) rfl
   exact V.x_pick_f (V.ed h 22 96 rfl) (V.ev_tmp rfl (V.gd_on d101 rfl))
  ·exact V.z1 rfl fun h => V.xm (V.ed h 28 102 rfl)
  ·exact V.gf 29 103 rfl rfl fun hp f W h => V.v1 (V.xm (V.eo h 13 s13))
  ·exact V.gf 29 103 rfl rfl fun hp f W h => V.v1 (V.x_len (V.eg h 30 104 rfl hp))
  ·exact V.gf 29 103 rfl rfl fun hp f W h => V.v1 (V.xm (V.eo h 2 s2))
  ·exact V.gf 29 103 rfl rfl fun hp f W h => V.v1 (V.x_len (V.eg h 32 106 rfl hp))
  ·exact V.gf 29 103 rfl rfl fun hp f W h => V.v1 (V.xb (V.eg h 31 105 rfl hp) (V.eg h 33 107 rfl hp) ((by kernel_rfl : _ = Result.ok (.bool ((l.length : Int) != (l.length : Int))) _).trans (by rw [bne_self_eq_false])))
  ·refine V.s1 rfl fun f W h => ?_
   have d108 := V.dp h 34 108 (by kernel_rfl) rfl
   exact V.x_pick_f (V.ed h 29 103 rfl) (V.ev_tmp rfl (V.gd_on d108 rfl))
  ·exact V.z1 rfl fun h => V.xm (V.ed h 35 109 rfl)
  ·exact V.gf 36 110 rfl rfl fun hp f W h => V.v1 (V.xm (V.eo h 15 s15))
  ·exact V.gf 36 110 rfl rfl fun hp f W h => V.v1 (V.x_len (V.eg h 37 111 rfl hp))
  ·exact V.gf 36 110 rfl rfl fun hp f W h => V.v1 (V.xm (V.eo h 2 s2))
  ·exact V.gf 36 110 rfl rfl fun hp f W h => V.v1 (V.x_len (V.eg h 39 113 rfl hp))
  ·exact V.gf 36 110 rfl rfl fun hp f W h => V.v1 (V.xb (V.eg h 38 112 rfl hp) (V.eg h 40 114 rfl hp) ((by kernel_rfl : _ = Result.ok (.bool ((l.length : Int) != (l.length : Int))) _).trans (by rw [bne_self_eq_false])))
  ·refine V.s1 rfl fun f W h => ?_
   have d115 := V.dp h 41 115 (by kernel_rfl) rfl
   exact V.x_pick_f (V.ed h 36 110 rfl) (V.ev_tmp rfl (V.gd_on d115 rfl))
  ·exact V.z1 rfl fun h => V.xm (V.ed h 42 116 rfl)
  ·exact V.gf 43 117 rfl rfl fun hp f W h => V.v1 (V.xm (V.eo h 17 s17))
  ·exact V.gf 43 117 rfl rfl fun hp f W h => V.v1 (V.x_len (V.eg h 44 118 rfl hp))
  ·exact V.gf 43 117 rfl rfl fun hp f W h => V.v1 (V.xm (V.eo h 2 s2))
  ·exact V.gf 43 117 rfl rfl fun hp f W h => V.v1 (V.x_len (V.eg h 46 120 rfl hp))
  ·exact V.gf 43 117 rfl rfl fun hp f W h => V.v1 (V.xb (V.eg h 45 119 rfl hp) (V.eg h 47 121 rfl hp) ((by kernel_rfl : _ = Result.ok (.bool ((l.length : Int) != (l.length : Int))) _).trans (by rw [bne_self_eq_false])))
  ·refine V.s1 rfl fun f W h => ?_
   have d122 := V.dp h 48 122 (by kernel_rfl) rfl
   exact V.x_pick_f (V.ed h 43 117 rfl) (V.ev_tmp rfl (V.gd_on d122 rfl))
  ·exact V.z1 rfl fun h => V.xm (V.ed h 49 123 rfl)
  ·exact V.gf 50 124 rfl rfl fun hp f W h => V.v1 (V.xl (V.eo h 7 s7) (V.lr h.g.1.2.2.2.2.1 Tryz.underlying39))
  ·exact V.gf 50 124 rfl rfl fun hp f W h => V.v1 (V.xl (V.eo h 9 s9) (V.lr h.g.1.2.2.2.2.2.2.1 Tryz.underlying39))
  ·refine V.gf 50 124 rfl rfl fun hp f W h => ?_
   refine V.call en19 (V.args2 (V.eg h 51 125 rfl hp) (V.eg h 52 126 rfl hp)) (Calls.mono (Cmp_s h.g.1.2.2.2.1 h.g.1.2.2.2.2.2.1 (hza.mono (by decide)) (hzb.mono (by decide))) ?_)
   rintro e W' ⟨rfl, hb⟩
   exact ⟨_, rfl, rfl, hb⟩
  ·exact V.gf 50 124 rfl rfl fun hp f W h => V.v1 (V.xb (V.eg h 53 127 rfl hp) rfl ((by kernel_rfl : _ = Result.ok (.bool (decide (0 < (Q.cmp z56.q z71.q)))) _).trans (by rw [show (decide (0 < (Q.cmp z56.q z71.q))) = false from cmp_le hle])))
  ·refine V.s1 rfl fun f W h => ?_
   have d128 := V.dp h 54 128 (by kernel_rfl) rfl
   exact V.x_pick_f (V.ed h 50 124 rfl) (V.ev_tmp rfl (V.gd_on d128 rfl))
 intro f213 W214 hE215
 clear hl hfr hb r61 b_g57 r76 b_g72 r102 r103 r131 r132 r167 r202
 obtain ⟨⟨hl, hfr, hb, r61, b_g57, r76, b_g72, r102, r103, r131, r132, r167, r202⟩, hsz⟩ := hE215.g
 obtain ⟨s0, s1, s2, s6, s11, s13, s15, s17⟩ := V.e8 hE215 s0 s1 s2 s6 s11 s13 s15 s17
 have s129 := V.es hE215 55 129 rfl
 clear hE215 hsz
 refine V.t_done rfl (V.nx ?_)
 refine V.cond_f (V.ev_tmp rfl s129) ?_
 refine V.skip ?_
 refine V.nx (V.seq ?_)
 clear r61 b_g57 r76 b_g72
 refine V.reg 1 [V.E (.int .i64 0)] [] (V.i hl (V.i hfr (V.i hb (V.i r102 (V.i r103 (V.i r131 (V.i r132 (V.i r167 r202)))))))) ?_ ?_
 ·refine V.ac ?_ V.an
  ·exact V.z1 rfl fun h => V.xs rfl
 intro f216 W217 hE218
 clear hl hfr hb r102 r103 r131 r132 r167 r202
 obtain ⟨⟨hl, hfr, hb, r102, r103, r131, r132, r167, r202⟩, hsz⟩ := hE218.g
 obtain ⟨s0, s1, s2, s6, s11, s13, s15, s17⟩ := V.e8 hE218 s0 s1 s2 s6 s11 s13 s15 s17
 have s19 := V.es hE218 0 19 rfl
 clear hE218 hsz
 refine V.t_done rfl (V.nx (V.seq (V.seq ?_)))
 refine V.reg 1 [V.E (.int .i64 0)] [] (V.i hl (V.i hfr (V.i hb (V.i r102 (V.i r103 (V.i r131 (V.i r132 (V.i r167 r202)))))))) ?_ ?_
 ·refine V.ac ?_ V.an
  ·exact V.z1 rfl fun h => V.xs rfl
 intro f219 W220 hE221
 clear hl hfr hb r102 r103 r131 r132 r167 r202
 obtain ⟨⟨hl, hfr, hb, r102, r103, r131, r132, r167, r202⟩, hsz⟩ := hE221.g
 obtain ⟨s0, s1, s2, s6, s11, s13, s15, s17, s19⟩ := V.e9 hE221 s0 s1 s2 s6 s11 s13 s15 s17 s19
 have s20 := V.es hE221 0 20 rfl
 clear hE221 hsz
 refine V.t_done rfl (V.nx (V.block ?_))
 refine V.loop (fun k f W => ∃ i : Nat, ∃ sm : Int, (k = l.length - i ∧ (i ≤ l.length) ∧ (sm = isum (rs198.take i) - isum (rs163.take i)) ∧ (-(1099511627776 * (i : Int)) ≤ sm) ∧ (sm ≤ 1099511627776 * (i : Int))) ∧ (f 0 = .int .i64 a ∧ f 1 = .int .i64 b ∧ f 2 = .slice A l.length c ∧ f 11 = .slice (some ⟨g96, 0, none⟩) l.length l.length ∧ f 13 = .slice (some ⟨g125, 0, none⟩) l.length l.length ∧ f 15 = .slice (some ⟨g159, 0, none⟩) l.length l.length ∧ f 17 = .slice (some ⟨g194, 0, none⟩) l.length l.length ∧ f 19 = .int .i64 sm ∧ f 20 = .int .i64 (i : Int)) ∧ (Below w.heap.size w W ∧ Ls W 6 A l.length c (l.map Cl.cells) ∧ (∀ x ∈ l, Fr.ok W x.w) ∧ Own W g96 39 4 (xs97.map Fr.cells) ([]) ∧ (∀ x ∈ xs97, Fr.ok W x) ∧ Own W g159 3 1 (rs163.map IntC) ([]) ∧ Own W g125 39 4 (xs126.map Fr.cells) ([]) ∧ (∀ x ∈ xs126, Fr.ok W x) ∧ Own W g194 3 1 (rs198.map IntC) ([]))) (l.length - 0) ⟨0, 0, ⟨rfl, by omega, by simp [isum], by omega, by omega⟩, ⟨s0, s1, s2, s11, s13, s15, s17, s19, (s20.trans (by simp))⟩, ⟨hb, hl, hfr, r102, r103, r167, r131, r132, r202⟩⟩ ?_
 clear hl hfr hb r102 r103 r131 r132 r167 r202 s0 s1 s2 s6 s11 s13 s15 s17 s19 s20
 rintro k224 f222 W223 ⟨i, sm, ⟨hk234, hil, hsm, hs0, hs1⟩, ⟨s0, s1, s2, s11, s13, s15, s17, s19, s20⟩, ⟨r225, r226, r227, r228, r229, r230, r231, r232, r233⟩⟩
 refine V.seq (V.seq ?_)
 refine V.reg 4 [V.E (.int .i64 (i : Int)), V.E (.slice A l.length c), V.E (.int .i64 (l.length : Int)), V.E (.bool (decide ((i : Int) < (l.length : Int))))] [] (V.i r225 (V.i r226 (V.i r227 (V.i r228 (V.i r229 (V.i r230 (V.i r231 (V.i r232 r233)))))))) ?_ ?_
 ·refine V.ac ?_ (V.ac ?_ (V.ac ?_ (V.ac ?_ V.an)))
  ·exact V.z1 rfl fun h => V.xm (V.eo h 20 s20)
  ·exact V.z1 rfl fun h => V.xm (V.eo h 2 s2)
  ·exact V.z1 rfl fun h => V.x_len (V.ed h 1 131 rfl)
  ·exact V.z1 rfl fun h => V.xb (V.ed h 0 130 rfl) (V.ed h 2 132 rfl)
 intro f235 W236 hE237
 clear r225 r226 r227 r228 r229 r230 r231 r232 r233
 obtain ⟨⟨r225, r226, r227, r228, r229, r230, r231, r232, r233⟩, hsz⟩ := hE237.g
 obtain ⟨s0, s1, s2, s11, s13, s15, s17, s19, s20⟩ := V.e9 hE237 s0 s1 s2 s11 s13 s15 s17 s19 s20
 have s133 := V.es hE237 3 133 rfl
 clear hE237 hsz
 refine V.t_done rfl (V.nx ?_)
 cases hc238 : (decide ((i : Int) < (l.length : Int)))
 ·have s133_ : f235 133 = .bool false := s133.trans (by rw [hc238])
  refine V.cond_f (V.ev_tmp rfl s133_) ?_
  have hi : i = l.length := by have := of_decide_eq_false hc238; omega
  rw [hi] at hsm
  have e1 := n203.sum
  have e2 := n168.sum
  rw [← List.take_length (l := rs198), n203.len] at e1
  rw [← List.take_length (l := rs163), n168.len] at e2
  rw [e1, e2] at hsm
  refine V.exit (V.tx (V.tx (V.bx (V.nx (V.seq ?_)))))
  refine V.reg 10 [V.E (.int .i64 sm), V.E (.int .i64 b), V.E (.slice A l.length c), V.E (.int .i64 (tot b l)), V.E (.int .i64 a), V.E (.slice A l.length c), V.E (.int .i64 (tot a l)), V.E (.int .i64 ((tot b l) - (tot a l))), V.E (.bool (sm == ((tot b l) - (tot a l)))), V.E (.bool (sm == ((tot b l) - (tot a l))))] [] (V.i r225 (V.i r226 (V.i r227 (V.i r228 (V.i r229 (V.i r230 (V.i r231 (V.i r232 r233)))))))) ?_ ?_
  ·refine V.ac ?_ (V.ac ?_ (V.ac ?_ (V.ac ?_ (V.ac ?_ (V.ac ?_ (V.ac ?_ (V.ac ?_ (V.ac ?_ (V.ac ?_ V.an)))))))))
   ·exact V.z1 rfl fun h => V.xm (V.eo h 19 s19)
   ·exact V.z1 rfl fun h => V.xm (V.eo h 1 s1)
   ·exact V.z1 rfl fun h => V.xm (V.eo h 2 s2)
   ·refine V.s2 rfl fun f W h => ?_
    refine V.call en22 (V.args2 (V.ed h 1 158 rfl) (V.ed h 2 159 rfl)) (Calls.mono (total_s h.g.1.2.1 h.g.1.2.2.1 hV h20 k0 k1) ?_)
    rintro e W' ⟨rfl, hb⟩
    exact ⟨_, rfl, rfl, hb⟩
   ·exact V.z1 rfl fun h => V.xm (V.eo h 0 s0)
   ·exact V.z1 rfl fun h => V.xm (V.eo h 2 s2)
   ·refine V.s2 rfl fun f W h => ?_
    refine V.call en22 (V.args2 (V.ed h 4 161 rfl) (V.ed h 5 162 rfl)) (Calls.mono (total_s h.g.1.2.1 h.g.1.2.2.1 hV h20 h0 h1) ?_)
    rintro e W' ⟨rfl, hb⟩
    exact ⟨_, rfl, rfl, hb⟩
   ·refine V.s1 rfl fun f W h => ?_
    have hw239 : IntKind.i64.wrap ((tot b l) - (tot a l)) = (tot b l) - (tot a l) := by exact IntWalk.i64_in _ (by omega)
    exact V.xb (V.ed h 3 160 rfl) (V.ed h 6 163 rfl) ((by kernel_rfl : _ = Result.ok (.int .i64 (IntKind.i64.wrap ((tot b l) - (tot a l)))) _).trans (by rw [hw239]))
   ·exact V.z1 rfl fun h => V.xb (V.ed h 0 157 rfl) (V.ed h 7 164 rfl)
   ·exact V.z1 rfl fun h => V.xs (V.ed h 8 165 rfl)
  intro f240 W241 hE242
  clear r225 r226 r227 r228 r229 r230 r231 r232 r233
  obtain ⟨⟨r225, r226, r227, r228, r229, r230, r231, r232, r233⟩, hsz⟩ := hE242.g
  obtain ⟨s0, s1, s2⟩ := V.e3 hE242 s0 s1 s2
  have s6 := V.es hE242 9 6 rfl
  clear hE242 hsz
  refine V.t_done rfl (V.nx (V.ret ?_))
  refine V.leave_any (.inl rfl) (V.res_tmp rfl rfl s6) ?_
  exact ⟨by rw [hsm, beq_self_eq_true], r225⟩
 ·have s133_ : f235 133 = .bool true := s133.trans (by rw [hc238])
  refine V.cond_t (V.ev_tmp rfl s133_) ?_
  have hi : i < l.length := by have := of_decide_eq_true hc238; omega
  obtain ⟨x, mx, ex, ex_⟩ := V.at_map Cl.cells (l := l) (i := i) hi
  have gx := hgood x mx
  have gb1 := gx.b1
  obtain ⟨y, my, ey, ey_⟩ := V.at_map Fr.cells (l := xs97) (i := i) (by rw [n105.len]; exact hi)
  have fy := r229 y my
  have hy := n105.q i x y ex ey
  have hys := ExP.sz n104 n105 h1 hgood h20 ex ey
  obtain ⟨p, ep, p0, pc, _⟩ := n168.one ex gx rfl
  have pst := isum_take1 ep
  have ep_ : (rs163.map IntC)[i]? = some (IntC p) := by rw [List.getElem?_map, ep]; rfl
  obtain ⟨y2, my2, ey2, ey2_⟩ := V.at_map Fr.cells (l := xs126) (i := i) (by rw [n134.len]; exact hi)
  have fy2 := r232 y2 my2
  have hy2 := n134.q i x y2 ex ey2
  have hy2s := ExP.sz n133 n134 k1 hgood h20 ex ey2
  obtain ⟨q, eq, q0, qc, _⟩ := n203.one ex gx rfl
  have qst := isum_take1 eq
  have eq_ : (rs198.map IntC)[i]? = some (IntC q) := by rw [List.getElem?_map, eq]; rfl
  have hys := hys
  have hyt := hy2s
  have hyy : y.q ≤ y2.q := by rw [hy, hy2]; exact part_le gx (by rw [hta, htb]; exact hle)
  refine V.skip ?_
  refine V.nx (V.seq (V.block (V.seq (V.seq ?_))))
  refine V.reg 10 [V.E (.slice (some ⟨g96, 0, none⟩) l.length l.length), V.E (.int .i64 (i : Int)), V.E (.pointer (some ((adr (some ⟨g96, 0, none⟩)).add (i * 4 + 0)))), V.E (y.v), V.E (.slice (some ⟨g125, 0, none⟩) l.length l.length), V.E (.int .i64 (i : Int)), V.E (.pointer (some ((adr (some ⟨g125, 0, none⟩)).add (i * 4 + 0)))), V.E (y2.v), V.E (.int .i64 (Q.cmp y.q y2.q)), V.E (.bool false)] [] (V.i r225 (V.i r226 (V.i r227 (V.i r228 (V.i r229 (V.i r230 (V.i r231 (V.i r232 (V.i r233 (V.i fy fy2)))))))))) ?_ ?_
  ·refine V.ac ?_ (V.ac ?_ (V.ac ?_ (V.ac ?_ (V.ac ?_ (V.ac ?_ (V.ac ?_ (V.ac ?_ (V.ac ?_ (V.ac ?_ V.an)))))))))
   ·exact V.z1 rfl fun h => V.xm (V.eo h 11 s11)
   ·exact V.z1 rfl fun h => V.xm (V.eo h 20 s20)
   ·exact V.z1 rfl fun h => V.xi (i := i) (Own.lsn (n := l.length) (c := l.length) h.g.1.2.2.2.1 ⟨by rw [List.length_map, n105.len], Nat.le_refl _, by omega⟩) ey_ (V.ed h 0 136 rfl) (V.ed h 1 137 rfl)
   ·exact V.z1 rfl fun h => V.xl (V.ed h 2 138 rfl) (V.ld_lsE (i := i) (o := 0) (cs := [.bool (Q.neg y.q), Vs y.A (Q.m y.q) y.c, .bool false, Vs y.A' y.q.den y.c']) (Own.lsn (n := l.length) (c := l.length) h.g.1.2.2.2.1 ⟨by rw [List.length_map, n105.len], Nat.le_refl _, by omega⟩) ey_ Tryz.underlying39)
   ·exact V.z1 rfl fun h => V.xm (V.eo h 13 s13)
   ·exact V.z1 rfl fun h => V.xm (V.eo h 20 s20)
   ·exact V.z1 rfl fun h => V.xi (i := i) (Own.lsn (n := l.length) (c := l.length) h.g.1.2.2.2.2.2.2.1 ⟨by rw [List.length_map, n134.len], Nat.le_refl _, by omega⟩) ey2_ (V.ed h 4 140 rfl) (V.ed h 5 141 rfl)
   ·exact V.z1 rfl fun h => V.xl (V.ed h 6 142 rfl) (V.ld_lsE (i := i) (o := 0) (cs := [.bool (Q.neg y2.q), Vs y2.A (Q.m y2.q) y2.c, .bool false, Vs y2.A' y2.q.den y2.c']) (Own.lsn (n := l.length) (c := l.length) h.g.1.2.2.2.2.2.2.1 ⟨by rw [List.length_map, n134.len], Nat.le_refl _, by omega⟩) ey2_ Tryz.underlying39)
   ·refine V.s2 rfl fun f W h => ?_
    refine V.call en19 (V.args2 (V.ed h 3 139 rfl) (V.ed h 7 143 rfl)) (Calls.mono (Cmp_s h.g.1.2.2.2.2.2.2.2.2.2.1 h.g.1.2.2.2.2.2.2.2.2.2.2 (hys.mono (by decide)) (hyt.mono (by decide))) ?_)
    rintro e W' ⟨rfl, hb⟩
    exact ⟨_, rfl, rfl, hb⟩
   ·exact V.z1 rfl fun h => V.xb (V.ed h 8 144 rfl) rfl ((by kernel_rfl : _ = Result.ok (.bool (decide (0 < (Q.cmp y.q y2.q)))) _).trans (by rw [show (decide (0 < (Q.cmp y.q y2.q))) = false from cmp_le hyy]))
  intro f244 W245 hE246
  clear r225 r226 r227 r228 r229 r230 r231 r232 r233 fy fy2
  obtain ⟨⟨r225, r226, r227, r228, r229, r230, r231, r232, r233, fy, fy2⟩, hsz⟩ := hE246.g
  obtain ⟨s0, s1, s2, s11, s13, s15, s17, s19, s20⟩ := V.e9 hE246 s0 s1 s2 s11 s13 s15 s17 s19 s20
  have s145 := V.es hE246 9 145 rfl
  clear hE246 hsz
  refine V.t_done rfl (V.nx ?_)
  refine V.cond_f (V.ev_tmp rfl s145) ?_
  refine V.skip ?_
  refine V.nx ?_
  refine V.reg 12 [V.E (.int .i64 sm), V.E (.slice (some ⟨g194, 0, none⟩) l.length l.length), V.E (.int .i64 (i : Int)), V.E (.pointer (some ((adr (some ⟨g194, 0, none⟩)).add (i * 1 + 0)))), V.E (.int .i64 q), V.E (.int .i64 (sm + q)), V.E (.slice (some ⟨g159, 0, none⟩) l.length l.length), V.E (.int .i64 (i : Int)), V.E (.pointer (some ((adr (some ⟨g159, 0, none⟩)).add (i * 1 + 0)))), V.E (.int .i64 p), V.E (.int .i64 ((sm + q) - p)), V.E (.int .i64 ((sm + q) - p))] [] (V.i r225 (V.i r226 (V.i r227 (V.i r228 (V.i r229 (V.i r230 (V.i r231 (V.i r232 (V.i r233 (V.i fy fy2)))))))))) ?_ ?_
  ·refine V.ac ?_ (V.ac ?_ (V.ac ?_ (V.ac ?_ (V.ac ?_ (V.ac ?_ (V.ac ?_ (V.ac ?_ (V.ac ?_ (V.ac ?_ (V.ac ?_ (V.ac ?_ V.an)))))))))))
   ·exact V.z1 rfl fun h => V.xm (V.eo h 19 s19)
   ·exact V.z1 rfl fun h => V.xm (V.eo h 17 s17)
   ·exact V.z1 rfl fun h => V.xm (V.eo h 20 s20)
   ·exact V.z1 rfl fun h => V.xi (i := i) (Own.lsn (n := l.length) (c := l.length) h.g.1.2.2.2.2.2.2.2.2.1 ⟨by rw [List.length_map, n203.len], Nat.le_refl _, by omega⟩) eq_ (V.ed h 1 147 rfl) (V.ed h 2 148 rfl)
   ·exact V.z1 rfl fun h => V.xl (V.ed h 3 149 rfl) (V.ld_ls1 (i := i) (o := 0) (Own.lsn (n := l.length) (c := l.length) h.g.1.2.2.2.2.2.2.2.2.1 ⟨by rw [List.length_map, n203.len], Nat.le_refl _, by omega⟩) eq_ rfl)
   ·refine V.s1 rfl fun f W h => ?_
    have hw247 : IntKind.i64.wrap (sm + q) = sm + q := by exact IntWalk.i64_in _ (by omega)
    exact V.xb (V.ed h 0 146 rfl) (V.ed h 4 150 rfl) ((by kernel_rfl : _ = Result.ok (.int .i64 (IntKind.i64.wrap (sm + q))) _).trans (by rw [hw247]))
   ·exact V.z1 rfl fun h => V.xm (V.eo h 15 s15)
   ·exact V.z1 rfl fun h => V.xm (V.eo h 20 s20)
   ·exact V.z1 rfl fun h => V.xi (i := i) (Own.lsn (n := l.length) (c := l.length) h.g.1.2.2.2.2.2.1 ⟨by rw [List.length_map, n168.len], Nat.le_refl _, by omega⟩) ep_ (V.ed h 6 152 rfl) (V.ed h 7 153 rfl)
   ·exact V.z1 rfl fun h => V.xl (V.ed h 8 154 rfl) (V.ld_ls1 (i := i) (o := 0) (Own.lsn (n := l.length) (c := l.length) h.g.1.2.2.2.2.2.1 ⟨by rw [List.length_map, n168.len], Nat.le_refl _, by omega⟩) ep_ rfl)
   ·refine V.s1 rfl fun f W h => ?_
    have hw248 : IntKind.i64.wrap ((sm + q) - p) = (sm + q) - p := by exact IntWalk.i64_in _ (by omega)
    exact V.xb (V.ed h 5 151 rfl) (V.ed h 9 155 rfl) ((by kernel_rfl : _ = Result.ok (.int .i64 (IntKind.i64.wrap ((sm + q) - p))) _).trans (by rw [hw248]))
   ·exact V.z1 rfl fun h => V.xs (V.ed h 10 156 rfl)
  intro f249 W250 hE251
  clear r225 r226 r227 r228 r229 r230 r231 r232 r233 fy fy2
  obtain ⟨⟨r225, r226, r227, r228, r229, r230, r231, r232, r233, fy, fy2⟩, hsz⟩ := hE251.g
  obtain ⟨s0, s1, s2, s11, s13, s15, s17, s20⟩ := V.e8 hE251 s0 s1 s2 s11 s13 s15 s17 s20
  have s19 := V.es hE251 11 19 rfl
  clear hE251 hsz
  refine V.t_done rfl (V.bn (V.nx ?_))
  refine V.reg 3 [V.E (.int .i64 (i : Int)), V.E (.int .i64 ((i : Int) + 1)), V.E (.int .i64 ((i : Int) + 1))] [] (V.i r225 (V.i r226 (V.i r227 (V.i r228 (V.i r229 (V.i r230 (V.i r231 (V.i r232 (V.i r233 (V.i fy fy2)))))))))) ?_ ?_
  ·refine V.ac ?_ (V.ac ?_ (V.ac ?_ V.an))
   ·exact V.z1 rfl fun h => V.xm (V.eo h 20 s20)
   ·refine V.s1 rfl fun f W h => ?_
    have hw252 : IntKind.i64.wrap ((i : Int) + 1) = (i : Int) + 1 := by exact IntWalk.i64_in _ (by omega)
    exact V.xb (V.ed h 0 134 rfl) rfl ((by kernel_rfl : _ = Result.ok (.int .i64 (IntKind.i64.wrap ((i : Int) + 1))) _).trans (by rw [hw252]))
   ·exact V.z1 rfl fun h => V.xs (V.ed h 1 135 rfl)
  intro f253 W254 hE255
  clear r225 r226 r227 r228 r229 r230 r231 r232 r233 fy fy2
  obtain ⟨⟨r225, r226, r227, r228, r229, r230, r231, r232, r233, fy, fy2⟩, hsz⟩ := hE255.g
  obtain ⟨s0, s1, s2, s11, s13, s15, s17, s19⟩ := V.e8 hE255 s0 s1 s2 s11 s13 s15 s17 s19
  have s20 := V.es hE255 2 20 rfl
  clear hE255 hsz
  refine V.t_done rfl ?_
  refine V.handed (l.length - (i + 1)) (by have := hk234; omega) ⟨(i + 1), (sm + q - p), ⟨rfl, by omega, by omega, by omega, by omega⟩, ⟨s0, s1, s2, s11, s13, s15, s17, (s19.trans (by simp)), (s20.trans (by simp))⟩, ⟨r225, r226, r227, r228, r229, r230, r231, r232, r233⟩⟩
end Go.Proofs.YtjbcalbbhomkjaaGreat
namespace Go.Proofs.YtjbcalbbhomkjaaGreat
open Go.ChangeShapes Go.WideShapes Go.ChangeAt Go.RowKit Go.Deep
theorem more_law {a b : Int} {A : Option Addr} {c : Nat} {l : List Rc} {w : World} (hl : Ls w 6 A l.length c (l.map Rc.cells)) (hfr : ∀ x ∈ l, Rc.ok w x) :
  Calls Tryz.prog 4 #[.int .i64 a, .int .i64 b, .slice A l.length c] w fun e w' => e = .returned (.bool true) ∧ Below w.heap.size w w' := by
 cases ha : usableB a l with
 | false => exact more_no1 hl hfr ha
 | true =>
  cases hb : usableB b l with
  | false => exact more_no2 hl hfr ha hb
  | true =>
   by_cases hab : b < a
   ·exact more_no3 hl hfr ha hb hab
   ·obtain ⟨k, rfl, hV, h10, h0, h1⟩ := usable_typed hfr ha
    obtain ⟨_, _, _, _, k0, k1⟩ := usable_typed hfr hb
    rw [List.length_map] at hl ⊢
    exact more_yes (typed_ls hl) (typed_ok hfr) hV h10 h0 h1 k0 k1 (by omega)
set_option maxRecDepth 100000 in
theorem more_lifted (os : Os) (started : os.Started) (H : Type) (enc : TypeId × Value → H) :
  ReturnsInHanded {} Tryz.checked os 4 .any (Rows.survivorMoreSpec.pre6 enc Tryz.prog Tryz.f4 Rows.survivorMoreRow.domain false) (Rows.survivorMoreSpec.post enc Tryz.prog Tryz.f4 false true false false) := by
 refine returnsInHanded_of_change (C := Tryz.checked) Tryz.own started (by kernel_rfl) Tryz.func4
  (ChangeSpec.witness6 (enc := enc) (C := Tryz.checked) false ⟨#[], #[.int .i64 0, .int .i64 0, .slice none 0 0], []⟩ 8 (by kernel_rfl) (by kernel_rfl) (by kernel_rfl) (by kernel_rfl)) ?_
 intro W base args ds gs before hval0 hW hcnd _
 have hval : ∀ (j : Nat) t v, Tryz.f4.params[j]? = some t → args[j]? = some v → Value.okWide Tryz.prog W .any base t v := hval0
 have hW' := hW
 obtain ⟨p, q, hA0, hV, rfl, hfz, hnd⟩ := hW
 have hA : DataW.TrodAll enc Tryz.prog W 0 (fun _ => true) true Tryz.f4.params.toList args.toList ds p := hA0
 rw [Tryz.params4] at hA hval
 obtain ⟨v0, v1, v2, d0, d1, d2, p0, p1, p2, rfl, rfl, rfl, h0, h1, h2⟩ := trodAll_three hA
 obtain ⟨rfl, rfl⟩ := trodVars_none hV
 obtain ⟨a, rfl, rfl, rfl, wa⟩ := open_int Tryz.underlying3 (hval 0 3 v0 rfl rfl) h0
 obtain ⟨b, rfl, rfl, rfl, wb⟩ := open_int Tryz.underlying3 (hval 1 3 v1 rfl rfl) h1
 obtain ⟨A', n', c', rfl⟩ := okWide_slice Tryz.underlying22 (hval 2 22 v2 rfl rfl)
 have h2k := h2
 obtain ⟨fuel, hf⟩ := h2
 obtain ⟨A, c, l, hcs, hl, hfr⟩ := open_claims hf
 obtain ⟨rfl, rfl, rfl⟩ : A' = A ∧ n' = l.length ∧ c' = c := by simpa [Value.cells] using hcs
 have hlt : ∀ x ∈ p2, x.block < W.heap.size := fun x hx => hW'.lt x (by simpa using hx)
 refine (more_law (a := a) (b := b) hl hfr ).mono fun e W' ⟨he, hB⟩ => ?_
 subst he
 exact ⟨_, rfl, _, _, _, [], _, [], hW', trodAll_mk1 (shut_bool Tryz.underlying4 true), trodAll_mk3 (shut_int Tryz.underlying3 wa) (shut_int Tryz.underlying3 wb) (Below.trod Tryz.laidOut (by kernel_rfl) (of_decide_eq_true (by kernel_rfl)) h2k hB hlt), rfl, hB.frame _, fun h => by cases h⟩
theorem more_holds : Rows.SurvivorMoreSaid :=
 OpenClaim.holds_of_wide 4 Tryz.f4 rfl rfl rfl rfl rfl rfl rfl ⟨rfl, rfl, rfl, rfl, rfl⟩ rfl rfl rfl rfl rfl (by kernel_rfl) Tryz.func4 (by kernel_rfl)
  (of_decide_eq_true (by kernel_rfl)) (by unfold Func.isWrapper; first | (rw [if_pos (by decide +kernel)]; kernel_rfl) | (rw [if_neg (by decide +kernel)]; exact ⟨rfl, rfl⟩))
  (fun os started H enc _ => more_lifted os started H enc)
#print axioms more_holds
end Go.Proofs.YtjbcalbbhomkjaaGreat
