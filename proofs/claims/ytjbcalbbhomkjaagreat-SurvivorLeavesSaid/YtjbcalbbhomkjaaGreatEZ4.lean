import Derived.Test.YtjbcalbbhomkjaaGreatRows
import Derived.ProofKit
import Derived.Deep.Slices
import Derived.Deep.Strs
import Derived.Test.YtjbcalbbhomkjaaGreatEZ3
set_option maxRecDepth 20000
set_option maxHeartbeats 2000000
namespace Go.Proofs.YtjbcalbbhomkjaaGreat
open Go.RowKit
attribute [local irreducible] RI.frame RI.act RI.Ob RI.Tail RI.out V.Wp V.Fn Oper.wp
theorem en65 : En 65 := en_ Tryz.func65
theorem en104 : En 104 := en_ Tryz.func104
theorem en105 : En 105 := en_ Tryz.func105
theorem en106 : En 106 := en_ Tryz.func106
theorem en134 : En 134 := en_ Tryz.func134
theorem limbs_one {d : Nat} (h0 : 0 < d) (h1 : d < 65536) : Lb.limbs d = [d] := by
  have := limbs_step h0
  rwa [Nat.mod_eq_of_lt h1, Nat.div_eq_of_lt h1, Lb.limbs_zero] at this
theorem small_len {a : Nat} (h : a < 65536) : (Lb.limbs a).length ≤ 100000 := Nat.le_trans ((Lb.limbs_length_le (n := a) (k := 1)).2 (by omega)) (by decide)
theorem RShort_n {A : Option Addr} {c : Nat} {a d : Nat} {w : World} (h : R16 w A (Lb.limbs a).length c (Lb.limbs a)) (hn : (Lb.limbs a).length ≤ 100000) (hd : 0 < d) (hd' : d < 65536) :
    Calls Tryz.prog 134 #[Vs A a c, .int .i64 (d : Int)] w fun e w' => ∃ A1 c1 A2 c2, e = .returned (.tuple #[Vs A1 (a / d) c1, Vs A2 (a % d) c2]) ∧ R16 w' A1 (Lb.limbs (a / d)).length c1 (Lb.limbs (a / d)) ∧ R16 w' A2 (Lb.limbs (a % d)).length c2 (Lb.limbs (a % d)) ∧ Below w.heap.size w w' := by
  have := RShort h.ls (Lb.ok_limbs a) hn hd hd'
  rwa [Lb.val_limbs] at this
theorem one_eq {g x : Nat} (hx : (Lb.limbs g).length = 1 → (Lb.limbs g)[0]? = some x) : ((((Lb.limbs g).length : Int) == (1 : Int)) && ((x : Int) == (1 : Int))) = decide (g = 1) := by
  by_cases h1 : (Lb.limbs g).length = 1
  · have h2 := hx h1
    obtain ⟨y, hy⟩ := List.length_eq_one_iff.1 h1
    have hg := Lb.val_limbs g
    rw [hy] at h2 hg
    have : y = x := by simpa using h2
    subst this
    have hg : y = g := by simpa [Lb.val] using hg
    subst hg
    rw [h1]
    by_cases h3 : y = 1
    · subst h3; rfl
    · rw [decide_eq_false h3]; simp; omega
  · have : g ≠ 1 := fun e => h1 (by rw [e]; rfl)
    rw [decide_eq_false this]; simp; omega
theorem nat_div (m k : Nat) (hk : k ≠ 0) : ((m : Rat) / (k : Rat)).num = ((m / Nat.gcd m k : Nat) : Int) ∧ ((m : Rat) / (k : Rat)).den = k / Nat.gcd m k := by
  have e : (m : Rat) / (k : Rat) = mkRat m k := by
    rw [Rat.mkRat_eq_div]; rfl
  rw [e, Rat.mkRat_def]
  simp [hk, Rat.normalize_eq]
theorem nat_div_v {A A' : Option Addr} {c c' : Nat} (m k : Nat) (hk : k ≠ 0) : (⟨A, c, A', c', (m : Rat) / (k : Rat)⟩ : Fr).v = .agg #[.bool false, Vs A (m / Nat.gcd m k) c, .bool false, Vs A' (k / Nat.gcd m k) c'] := by
  obtain ⟨h1, h2⟩ := nat_div m k hk
  have h3 : Q.neg ((m : Rat) / (k : Rat)) = false := by unfold Q.neg; rw [h1]; exact decide_eq_false (Int.not_lt.2 (Int.natCast_nonneg _))
  have h4 : Q.m ((m : Rat) / (k : Rat)) = m / Nat.gcd m k := by unfold Q.m; rw [h1]; rfl
  simp only [Fr.v, h3, h4, h2]
theorem nat_div_ok {W : World} {A A' : Option Addr} {c c' : Nat} {m k : Nat} (hk : k ≠ 0) (h : R16 W A (Lb.limbs (m / Nat.gcd m k)).length c (Lb.limbs (m / Nat.gcd m k))) (h' : R16 W A' (Lb.limbs (k / Nat.gcd m k)).length c' (Lb.limbs (k / Nat.gcd m k))) : Fr.ok W ⟨A, c, A', c', (m : Rat) / (k : Rat)⟩ := by
  obtain ⟨h1, h2⟩ := nat_div m k hk
  have h4 : Q.m ((m : Rat) / (k : Rat)) = m / Nat.gcd m k := by unfold Q.m; rw [h1]; rfl
  exact ⟨by simp only [h4]; exact h, by simp only [h2]; exact h'⟩
theorem RDiv1 {A B : Option Addr} {c c' a d : Nat} {w : World} (h : R16 w A (Lb.limbs a).length c (Lb.limbs a)) (h' : R16 w B (Lb.limbs d).length c' (Lb.limbs d)) (hn : (Lb.limbs a).length ≤ 100000) (hd : 0 < d) (hd' : d < 65536) :
    Calls Tryz.prog 106 #[Vs A a c, Vs B d c'] w fun e w' => ∃ A1 c1 A2 c2, e = .returned (.tuple #[Vs A1 (a / d) c1, Vs A2 (a % d) c2]) ∧ R16 w' A1 (Lb.limbs (a / d)).length c1 (Lb.limbs (a / d)) ∧ R16 w' A2 (Lb.limbs (a % d)).length c2 (Lb.limbs (a % d)) ∧ Below w.heap.size w w' := by
 have hm := h'.ls
 have hd0 := limbs_one hd hd'
 have hd1 : (Lb.limbs d).length = 1 := by rw [hd0]; rfl
 have hB : ((Lb.limbs d).map U16)[0]? = some (U16 d) := by rw [hd0]; rfl
 refine V.nt Tryz.func106 rfl rfl fun f0 hf => ?_
 have s0 : f0 0 = Vs A a c := hf 0 (by simp)
 have s1 : f0 1 = Vs B d c' := hf 1 (by simp)
 clear hf
 have hb := Below.refl w.heap.size w
 refine V.seq ?_
 refine V.reg 2 [V.E (.slice none 0 0), V.E (.slice none 0 0)] [] (V.i h (V.i hm hb)) ?_ ?_
 ·refine V.a2 ?_ ?_
  ·exact V.z1 rfl fun h => V.xs rfl
  ·exact V.z1 rfl fun h => V.xs rfl
 intro f1 W2 e3
 clear h hm hb
 obtain ⟨⟨h, hm, hb⟩, z_⟩ := e3.g
 obtain ⟨s0, s1⟩ := V.e2 e3 s0 s1
 have s4 := V.es e3 0 4 rfl
 have s5 := V.es e3 1 5 rfl
 clear e3 z_
 refine V.t_done rfl (V.nx (V.seq (V.seq ?_)))
 refine V.reg 3 [V.E (Vs B d c'), V.E (.int .i64 ((Lb.limbs d).length : Int)), V.E (.bool (((Lb.limbs d).length : Int) == (1 : Int)))] [] (V.i h (V.i hm hb)) ?_ ?_
 ·refine V.a3 ?_ ?_ ?_
  ·exact V.mo rfl 1 s1
  ·exact V.z1 rfl fun h => V.x_len (V.ed h 0 13 rfl)
  ·exact V.z1 rfl fun h => V.xb (V.ed h 1 14 rfl) rfl
 intro f4 W5 e6
 clear h hm hb
 obtain ⟨⟨h, hm, hb⟩, z_⟩ := e6.g
 obtain ⟨s0, s1, s4, s5⟩ := V.e4 e6 s0 s1 s4 s5
 have s15 := V.es e6 2 15 rfl
 clear e6 z_
 refine V.t_done rfl (V.nx ?_)
 have s15_ : f4 15 = .bool true := s15.trans (congrArg Value.bool (by rw [hd1]; rfl))
 refine V.cond_t (V.ev_tmp rfl s15_) ?_
 refine V.seq ?_
 refine V.reg 10 [V.E (Vs A a c), V.E (Vs B d c'), V.E (.pointer (some ((adr B).add (0 * 1 + 0)))), V.E (.int .u16 (d : Int)), V.E (.int .i64 (d : Int)), (fun v W => ∃ A8 : Option Addr, ∃ c9 : Nat, ∃ A10 : Option Addr, ∃ c11 : Nat, v = .tuple #[Vs A8 (a / d) c9, Vs A10 (a % d) c11] ∧ R16 W A8 ((Lb.limbs (a / d)).length) c9 (Lb.limbs (a / d)) ∧ R16 W A10 ((Lb.limbs (a % d)).length) c11 (Lb.limbs (a % d))), (fun v W => ∃ A14 : Option Addr, ∃ c15 : Nat, v = Vs A14 (a / d) c15 ∧ R16 W A14 ((Lb.limbs (a / d)).length) c15 (Lb.limbs (a / d))), (fun v W => ∃ A16 : Option Addr, ∃ c17 : Nat, v = Vs A16 (a % d) c17 ∧ R16 W A16 ((Lb.limbs (a % d)).length) c17 (Lb.limbs (a % d))), (fun v W => ∃ A18 : Option Addr, ∃ c19 : Nat, v = Vs A18 (a / d) c19 ∧ R16 W A18 ((Lb.limbs (a / d)).length) c19 (Lb.limbs (a / d))), (fun v W => ∃ A20 : Option Addr, ∃ c21 : Nat, v = Vs A20 (a % d) c21 ∧ R16 W A20 ((Lb.limbs (a % d)).length) c21 (Lb.limbs (a % d)))] [] (V.i h (V.i hm hb)) ?_ ?_
 ·refine V.b8 ?_ ?_ ?_ ?_ ?_ ?_ ?_ ?_ (V.a2 ?_ ?_)
  ·exact V.mo rfl 0 s0
  ·exact V.mo rfl 1 s1
  ·exact V.z1 rfl fun h => V.xi (i := 0) h.g.1.2.1 hB (V.ed h 1 17 rfl) rfl
  ·exact V.z1 rfl fun h => V.xl (V.ed h 2 18 rfl) (V.ld_ls1 (i := 0) (o := 0) h.g.1.2.1 hB rfl)
  ·refine V.s1 rfl fun f W h => ?_
   have hw7 : IntKind.i64.wrap ((d : Int)) = (d : Int) := by exact IntWalk.i64_in _ (by omega)
   exact V.x_convert (V.ed h 3 19 rfl) ((by kernel_rfl : _ = Result.ok (.int .i64 (IntKind.i64.wrap ((d : Int)))) _).trans (by rw [hw7]))
  ·refine V.s2 rfl fun f W h => ?_
   refine V.call en134 (V.args2 (V.ed h 0 16 rfl) (V.ed h 4 20 rfl)) (Calls.mono (RShort_n (a := a) (d := d) h.g.1.1 hn hd hd') ?_)
   rintro e W' ⟨A8, c9, A10, c11, rfl, k12, k13, hb⟩
   exact ⟨_, rfl, ⟨A8, c9, A10, c11, rfl, k12, k13⟩, hb⟩
  ·refine V.s2 rfl fun f W h => ?_
   obtain ⟨A8, c9, A10, c11, a21, k5_0, k5_1⟩ := V.dp h 5 21 (by kernel_rfl) rfl
   exact V.v2 (Vs A8 (a / d) c9) (V.xe (V.ev_tmp rfl a21)) ⟨A8, c9, rfl, k5_0⟩
  ·refine V.s2 rfl fun f W h => ?_
   obtain ⟨A8, c9, A10, c11, a21, k5_0, k5_1⟩ := V.dp h 5 21 (by kernel_rfl) rfl
   exact V.v2 (Vs A10 (a % d) c11) (V.xe (V.ev_tmp rfl a21)) ⟨A10, c11, rfl, k5_1⟩
  ·refine V.s2 rfl fun f W h => ?_
   obtain ⟨A14, c15, a22, k6_0⟩ := V.dp h 6 22 (by kernel_rfl) rfl
   exact V.v2 (Vs A14 (a / d) c15) (V.xs (V.ev_tmp rfl a22)) ⟨A14, c15, rfl, k6_0⟩
  ·refine V.s2 rfl fun f W h => ?_
   obtain ⟨A16, c17, a23, k7_0⟩ := V.dp h 7 23 (by kernel_rfl) rfl
   exact V.v2 (Vs A16 (a % d) c17) (V.xs (V.ev_tmp rfl a23)) ⟨A16, c17, rfl, k7_0⟩
 intro f22 W23 e24
 clear h hm hb
 obtain ⟨⟨h, hm, hb⟩, z_⟩ := e24.g
 obtain ⟨s0, s1⟩ := V.e2 e24 s0 s1
 obtain ⟨A18, c19, s4, r25⟩ := V.eq e24 8 4 rfl
 obtain ⟨A20, c21, s5, r26⟩ := V.eq e24 9 5 rfl
 clear e24 z_
 refine V.t_done rfl (V.nx (V.ret (V.tr ?_)))
 refine V.leave_any (.inl rfl) (V.res_tmp2 rfl rfl rfl s4 s5) ?_
 exact ⟨_, _, _, _, rfl, r25, r26, hb⟩
theorem limbs_pos_iff1 (k : Nat) : decide ((0 : Int) < ((Lb.limbs k).length : Int)) = decide (k ≠ 0) := Q.limbs_pos_iff k
theorem RCommon1 {A B : Option Addr} {c c' m n : Nat} {w : World} (h : R16 w A (Lb.limbs m).length c (Lb.limbs m)) (h' : R16 w B (Lb.limbs n).length c' (Lb.limbs n)) (hm0 : m < 65536) (hk0 : n < 65536) :
    Calls Tryz.prog 104 #[Vs A m c, Vs B n c'] w fun e w' => ∃ A c, e = .returned (Vs A (Nat.gcd m n) c) ∧ R16 w' A (Lb.limbs (Nat.gcd m n)).length c (Lb.limbs (Nat.gcd m n)) ∧ Below w.heap.size w w' := by
 refine V.nt Tryz.func104 rfl rfl fun f0 hf => ?_
 have s0 : f0 0 = Vs A m c := hf 0 (by simp)
 have s1 : f0 1 = Vs B n c' := hf 1 (by simp)
 clear hf
 have hb := Below.refl w.heap.size w
 refine V.seq ?_
 refine V.reg 1 [V.E (.slice none 0 0)] [] (V.i h (V.i h' hb)) ?_ ?_
 ·refine V.ac ?_ V.an
  ·exact V.z1 rfl fun h => V.xs rfl
 intro f27 W28 e29
 clear h h' hb
 obtain ⟨⟨h, h', hb⟩, z_⟩ := e29.g
 obtain ⟨s0, s1⟩ := V.e2 e29 s0 s1
 have s4 := V.es e29 0 4 rfl
 clear e29 z_
 refine V.t_done rfl (V.nx (V.seq (V.block ?_)))
 refine V.loop (fun k f W => ∃ x : Nat, ∃ y : Nat, ∃ A1 : Option Addr, ∃ c1 : Nat, ∃ B1 : Option Addr, ∃ c2 : Nat, (k = y ∧ (x < 65536) ∧ (y < 65536) ∧ (Nat.gcd x y = Nat.gcd m n)) ∧ (f 0 = Vs A1 x c1 ∧ f 1 = Vs B1 y c2) ∧ (Below w.heap.size w W ∧ R16 W A1 ((Lb.limbs x).length) c1 (Lb.limbs x) ∧ R16 W B1 ((Lb.limbs y).length) c2 (Lb.limbs y))) (n) ⟨m, n, A, c, B, c', ⟨rfl, hm0, hk0, rfl⟩, ⟨s0, s1⟩, ⟨hb, h, h'⟩⟩ ?_
 clear h h' hb s0 s1 s4
 rintro k32 f30 W31 ⟨x, y, A1, c1, B1, c2, ⟨hk36, hx, hy, hgc⟩, ⟨s0, s1⟩, ⟨r33, r34, r35⟩⟩
 refine V.seq (V.seq ?_)
 refine V.reg 3 [V.E (Vs B1 y c2), V.E (.int .i64 ((Lb.limbs y).length : Int)), V.E (.bool (decide (0 < ((Lb.limbs y).length : Int))))] [] (V.i r33 (V.i r34 r35)) ?_ ?_
 ·refine V.a3 ?_ ?_ ?_
  ·exact V.mo rfl 1 s1
  ·exact V.z1 rfl fun h => V.x_len (V.ed h 0 7 rfl)
  ·exact V.z1 rfl fun h => V.xb (V.ed h 1 8 rfl) rfl
 intro f37 W38 e39
 clear r33 r34 r35
 obtain ⟨⟨r33, r34, r35⟩, z_⟩ := e39.g
 obtain ⟨s0, s1⟩ := V.e2 e39 s0 s1
 have s9 := V.es e39 2 9 rfl
 clear e39 z_
 refine V.t_done rfl (V.nx ?_)
 cases hc40 : (decide (0 < ((Lb.limbs y).length : Int)))
 ·have s9_ : f37 9 = .bool false := s9.trans (by rw [hc40])
  refine V.cond_f (V.ev_tmp rfl s9_) ?_
  have hz := hc40
  rw [limbs_pos_iff1] at hz
  have hy0 : y = 0 := by have := of_decide_eq_false hz; omega
  rw [hy0, Nat.gcd_zero_right] at hgc
  refine V.exit (V.tx (V.tx (V.bx (V.nx (V.seq ?_)))))
  refine V.reg 2 [V.E (Vs A1 x c1), V.E (Vs A1 x c1)] [] (V.i r33 (V.i r34 r35)) ?_ ?_
  ·refine V.a2 ?_ ?_
   ·exact V.mo rfl 0 s0
   ·exact V.se rfl 0 18 rfl
  intro f41 W42 e43
  clear r33 r34 r35
  obtain ⟨⟨r33, r34, r35⟩, z_⟩ := e43.g
  obtain ⟨s0, s1⟩ := V.e2 e43 s0 s1
  have s4 := V.es e43 1 4 rfl
  clear e43 z_
  refine V.t_done rfl (V.nx (V.ret ?_))
  refine V.leave_any (.inl rfl) (V.res_tmp rfl rfl s4) ?_
  exact ⟨_, _, by rw [← hgc], by rw [← hgc]; exact r34, r33⟩
 ·have s9_ : f37 9 = .bool true := s9.trans (by rw [hc40])
  refine V.cond_t (V.ev_tmp rfl s9_) ?_
  have hz := hc40
  rw [limbs_pos_iff1] at hz
  have hy0 : 0 < y := by have := of_decide_eq_true hz; omega
  refine V.skip ?_
  refine V.nx (V.block (V.seq ?_))
  refine V.reg 8 [V.E (Vs A1 x c1), V.E (Vs B1 y c2), (fun v W => ∃ A44 : Option Addr, ∃ c45 : Nat, ∃ A46 : Option Addr, ∃ c47 : Nat, v = .tuple #[Vs A44 (x / y) c45, Vs A46 (x % y) c47] ∧ R16 W A44 ((Lb.limbs (x / y)).length) c45 (Lb.limbs (x / y)) ∧ R16 W A46 ((Lb.limbs (x % y)).length) c47 (Lb.limbs (x % y))), (fun v W => ∃ A50 : Option Addr, ∃ c51 : Nat, ∃ A52 : Option Addr, ∃ c53 : Nat, v = .tuple #[Vs A50 (x / y) c51, Vs A52 (x % y) c53] ∧ R16 W A50 ((Lb.limbs (x / y)).length) c51 (Lb.limbs (x / y)) ∧ R16 W A52 ((Lb.limbs (x % y)).length) c53 (Lb.limbs (x % y))), (fun v W => ∃ A54 : Option Addr, ∃ c55 : Nat, v = Vs A54 (x / y) c55 ∧ R16 W A54 ((Lb.limbs (x / y)).length) c55 (Lb.limbs (x / y))), (fun v W => ∃ A56 : Option Addr, ∃ c57 : Nat, v = Vs A56 (x % y) c57 ∧ R16 W A56 ((Lb.limbs (x % y)).length) c57 (Lb.limbs (x % y))), (fun v W => ∃ A58 : Option Addr, ∃ c59 : Nat, v = Vs A58 (x / y) c59 ∧ R16 W A58 ((Lb.limbs (x / y)).length) c59 (Lb.limbs (x / y))), (fun v W => ∃ A60 : Option Addr, ∃ c61 : Nat, v = Vs A60 (x % y) c61 ∧ R16 W A60 ((Lb.limbs (x % y)).length) c61 (Lb.limbs (x % y)))] [] (V.i r33 (V.i r34 r35)) ?_ ?_
  ·refine V.a8 ?_ ?_ ?_ ?_ ?_ ?_ ?_ ?_
   ·exact V.mo rfl 0 s0
   ·exact V.mo rfl 1 s1
   ·refine V.s2 rfl fun f W h => ?_
    refine V.call en106 (V.args2 (V.ed h 0 11 rfl) (V.ed h 1 12 rfl)) (Calls.mono (RDiv1 (a := x) (d := y) h.g.1.2.1 h.g.1.2.2 (small_len (by omega)) hy0 hy) ?_)
    rintro e W' ⟨A44, c45, A46, c47, rfl, k48, k49, hb⟩
    exact ⟨_, rfl, ⟨A44, c45, A46, c47, rfl, k48, k49⟩, hb⟩
   ·refine V.s2 rfl fun f W h => ?_
    obtain ⟨A44, c45, A46, c47, a13, k2_0, k2_1⟩ := V.dp h 2 13 (by kernel_rfl) rfl
    exact V.v2 (.tuple #[Vs A44 (x / y) c45, Vs A46 (x % y) c47]) (V.xm (V.ev_tmp rfl a13)) ⟨A44, c45, A46, c47, rfl, k2_0, k2_1⟩
   ·refine V.s2 rfl fun f W h => ?_
    obtain ⟨A50, c51, A52, c53, a10, k3_0, k3_1⟩ := V.dp h 3 10 (by kernel_rfl) rfl
    exact V.v2 (Vs A50 (x / y) c51) (V.xe (V.ev_tmp rfl a10)) ⟨A50, c51, rfl, k3_0⟩
   ·refine V.s2 rfl fun f W h => ?_
    obtain ⟨A50, c51, A52, c53, a10, k3_0, k3_1⟩ := V.dp h 3 10 (by kernel_rfl) rfl
    exact V.v2 (Vs A52 (x % y) c53) (V.xe (V.ev_tmp rfl a10)) ⟨A52, c53, rfl, k3_1⟩
   ·refine V.s2 rfl fun f W h => ?_
    obtain ⟨A54, c55, a14, k4_0⟩ := V.dp h 4 14 (by kernel_rfl) rfl
    exact V.v2 (Vs A54 (x / y) c55) (V.xs (V.ev_tmp rfl a14)) ⟨A54, c55, rfl, k4_0⟩
   ·refine V.s2 rfl fun f W h => ?_
    obtain ⟨A56, c57, a15, k5_0⟩ := V.dp h 5 15 (by kernel_rfl) rfl
    exact V.v2 (Vs A56 (x % y) c57) (V.xs (V.ev_tmp rfl a15)) ⟨A56, c57, rfl, k5_0⟩
  intro f62 W63 e64
  clear r33 r34 r35
  obtain ⟨⟨r33, r34, r35⟩, z_⟩ := e64.g
  obtain ⟨s0, s1⟩ := V.e2 e64 s0 s1
  obtain ⟨A60, c61, s6, r65⟩ := V.eq e64 7 6 rfl
  clear e64 z_
  refine V.t_done rfl (V.nx (V.seq ?_))
  refine V.reg 2 [V.E (Vs B1 y c2), V.E (Vs B1 y c2)] [] (V.i r33 (V.i r34 (V.i r35 r65))) ?_ ?_
  ·refine V.a2 ?_ ?_
   ·exact V.mo rfl 1 s1
   ·exact V.se rfl 0 16 rfl
  intro f66 W67 e68
  clear r33 r34 r35 r65
  obtain ⟨⟨r33, r34, r35, r65⟩, z_⟩ := e68.g
  obtain ⟨s1, s6⟩ := V.e2 e68 s1 s6
  have s0 := V.es e68 1 0 rfl
  clear e68 z_
  refine V.t_done rfl (V.nx ?_)
  refine V.reg 2 [V.E (Vs A60 (x % y) c61), V.E (Vs A60 (x % y) c61)] [] (V.i r33 (V.i r34 (V.i r35 r65))) ?_ ?_
  ·refine V.a2 ?_ ?_
   ·exact V.mo rfl 6 s6
   ·exact V.se rfl 0 17 rfl
  intro f69 W70 e71
  clear r33 r34 r35 r65
  obtain ⟨⟨r33, r34, r35, r65⟩, z_⟩ := e71.g
  replace s0 := V.e1 e71 s0
  have s1 := V.es e71 1 1 rfl
  clear e71 z_
  refine V.t_done rfl (V.bn ?_)
  refine V.handed ((x % y)) (by have := hk36; have := Nat.mod_lt x hy0; omega) ⟨y, (x % y), B1, c2, A60, c61, ⟨rfl, by omega, by have := Nat.mod_lt x hy0; omega, by rw [Nat.gcd_comm, ← Nat.gcd_rec, Nat.gcd_comm]; exact hgc⟩, ⟨s0, s1⟩, ⟨r33, r35, r65⟩⟩
theorem ROne {A : Option Addr} {c m : Nat} {w : World} (h : R16 w A (Lb.limbs m).length c (Lb.limbs m)) :
    Calls Tryz.prog 105 #[Vs A m c] w fun e w' => e = .returned (.bool (decide (m = 1))) ∧ Below w.heap.size w w' := by
 have hm := h.ls
 obtain ⟨x, hx⟩ : ∃ x, (Lb.limbs m).length = 1 → (Lb.limbs m)[0]? = some x := by
  by_cases h0 : (Lb.limbs m).length = 1
  ·exact ⟨_, fun _ => List.getElem?_eq_getElem (show 0 < (Lb.limbs m).length by omega)⟩
  ·exact ⟨0, fun h => absurd h h0⟩
 have hx2 : (Lb.limbs m).length = 1 → ((Lb.limbs m).map U16)[0]? = some (U16 x) := fun h => by rw [List.getElem?_map, hx h]; rfl
 refine V.nt Tryz.func105 rfl rfl fun f0 hf => ?_
 have s0 : f0 0 = Vs A m c := hf 0 (by simp)
 clear hf
 have hb := Below.refl w.heap.size w
 refine V.seq ?_
 refine V.reg 1 [V.E (.bool false)] [] (V.i hm hb) ?_ ?_
 ·refine V.ac ?_ V.an
  ·exact V.z1 rfl fun h => V.xs rfl
 intro f72 W73 e74
 clear hm hb
 obtain ⟨⟨hm, hb⟩, z_⟩ := e74.g
 replace s0 := V.e1 e74 s0
 have s2 := V.es e74 0 2 rfl
 clear e74 z_
 refine V.t_done rfl (V.nx (V.seq ?_))
 refine V.reg 10 [V.E (Vs A m c), V.E (.int .i64 ((Lb.limbs m).length : Int)), V.E (.bool (((Lb.limbs m).length : Int) == (1 : Int))), V.E (.bool (((Lb.limbs m).length : Int) == (1 : Int))), (V.Gd (((Lb.limbs m).length : Int) == (1 : Int)) (V.E (Vs A m c))), (V.Gd (((Lb.limbs m).length : Int) == (1 : Int)) (V.E (.pointer (some ((adr A).add (0 * 1 + 0)))))), (V.Gd (((Lb.limbs m).length : Int) == (1 : Int)) (V.E (.int .u16 (x : Int)))), (V.Gd (((Lb.limbs m).length : Int) == (1 : Int)) (V.E (.bool ((x : Int) == (1 : Int))))), V.E (.bool ((((Lb.limbs m).length : Int) == (1 : Int)) && ((x : Int) == (1 : Int)))), V.E (.bool ((((Lb.limbs m).length : Int) == (1 : Int)) && ((x : Int) == (1 : Int))))] [] (V.i hm hb) ?_ ?_
 ·refine V.b8 ?_ ?_ ?_ ?_ ?_ ?_ ?_ ?_ (V.a2 ?_ ?_)
  ·exact V.mo rfl 0 s0
  ·exact V.z1 rfl fun h => V.x_len (V.ed h 0 3 rfl)
  ·exact V.z1 rfl fun h => V.xb (V.ed h 1 4 rfl) rfl
  ·exact V.me rfl 2 5 rfl
  ·exact V.gt 3 6 rfl rfl fun hp f W h => V.v1 (V.xm (V.eo h 0 s0))
  ·exact V.gt 3 6 rfl rfl fun hp f W h => V.v1 (V.xi (i := 0) h.g.1.1 (hx2 (by have := eq_of_beq hp; omega)) (V.eg h 4 7 rfl hp) rfl)
  ·exact V.gt 3 6 rfl rfl fun hp f W h => V.v1 (V.xl (V.eg h 5 8 rfl hp) (V.ld_ls1 (i := 0) (o := 0) h.g.1.1 (hx2 (by have := eq_of_beq hp; omega)) rfl))
  ·exact V.gt 3 6 rfl rfl fun hp f W h => V.v1 (V.xb (V.eg h 6 9 rfl hp) rfl)
  ·refine V.s1 rfl fun f W h => ?_
   have d10 := V.dp h 7 10 (by kernel_rfl) rfl
   exact V.x_and (V.ed h 3 6 rfl) (fun e => V.ev_tmp rfl (V.gd_on d10 e)) rfl
  ·exact V.se rfl 8 11 rfl
 intro f75 W76 e77
 clear hm hb
 obtain ⟨⟨hm, hb⟩, z_⟩ := e77.g
 replace s0 := V.e1 e77 s0
 have s2 := V.es e77 9 2 rfl
 clear e77 z_
 refine V.t_done rfl (V.nx (V.ret ?_))
 refine V.leave_any (.inl rfl) (V.res_tmp rfl rfl s2) ?_
 exact ⟨by rw [one_eq hx], hb⟩
theorem RLowest1 {A B : Option Addr} {c c' m k : Nat} {w : World} (h : R16 w A (Lb.limbs m).length c (Lb.limbs m)) (h' : R16 w B (Lb.limbs k).length c' (Lb.limbs k)) (hm0 : m < 65536) (hk0 : 0 < k) (hk' : k < 65536) :
    Calls Tryz.prog 65 #[.agg #[.bool false, Vs A m c], .agg #[.bool false, Vs B k c']] w fun e w' => ∃ z : Fr, e = .returned z.v ∧ Fr.ok w' z ∧ z.q = ((m : Nat) : Rat) / ((k : Nat) : Rat) ∧ Below w.heap.size w w' := by
 have hg0 : 0 < Nat.gcd m k := Nat.gcd_pos_of_pos_right _ hk0
 have hg' : Nat.gcd m k < 65536 := Nat.lt_of_le_of_lt (Nat.gcd_le_right _ hk0) hk'
 refine V.nt Tryz.func65 rfl rfl fun f0 hf => ?_
 have s0 : f0 0 = .agg #[.bool false, Vs A m c] := hf 0 (by simp)
 have s1 : f0 1 = .agg #[.bool false, Vs B k c'] := hf 1 (by simp)
 clear hf
 have hb := Below.refl w.heap.size w
 refine V.seq ?_
 refine V.reg 3 [V.Nb w 35 #[.bool false, Vs A m c], V.Nb w 35 #[.bool false, Vs B k c'], V.Nb w 39 #[.bool false, .slice none 0 0, .bool false, .slice none 0 0]] [0, 1, 2] (V.i h (V.i h' hb)) ?_ ?_
 ·refine V.a3 ?_ ?_ ?_
  ·exact V.sn rfl fun f W h => V.x_box (V.eo h 0 s0)
  ·exact V.sn rfl fun f W h => V.x_box (V.eo h 1 s1)
  ·exact V.sn rfl fun f W h => V.x_alloc
 have o_bel := hb.size
 intro f81 W82 e83
 clear h h' hb
 obtain ⟨⟨h, h', hb⟩, z_⟩ := e83.g
 obtain ⟨s0, s1⟩ := V.e2 e83 s0 s1
 obtain ⟨g78, s2, bg78, lg78⟩ := V.eq e83 0 2 rfl
 obtain ⟨g79, s3, bg79, lg79⟩ := V.eq e83 1 3 rfl
 obtain ⟨g80, s4, bg80, lg80⟩ := V.eq e83 2 4 rfl
 have mg80 := Nat.le_trans o_bel lg80
 have q78_80 : g78 ≠ g80 := V.ep e83 0 2 2 4 s2 s4
 have q79_80 : g79 ≠ g80 := V.ep e83 1 2 3 4 s3 s4
 clear e83 z_
 clear o_bel
 refine V.t_done rfl (V.nx (V.seq ?_))
 refine V.reg 6 [V.E (Vp g78 1), V.E (Vs A m c), V.E (Vp g79 1), V.E (Vs B k c'), (fun v W => ∃ A84 : Option Addr, ∃ c85 : Nat, v = Vs A84 (Nat.gcd m k) c85 ∧ R16 W A84 ((Lb.limbs (Nat.gcd m k)).length) c85 (Lb.limbs (Nat.gcd m k))), (fun v W => ∃ A87 : Option Addr, ∃ c88 : Nat, v = Vs A87 (Nat.gcd m k) c88 ∧ R16 W A87 ((Lb.limbs (Nat.gcd m k)).length) c88 (Lb.limbs (Nat.gcd m k)))] [] (V.i h (V.i h' (V.i hb (V.i bg78 (V.i bg79 bg80))))) ?_ ?_
 ·refine V.a6 ?_ ?_ ?_ ?_ ?_ ?_
  ·exact V.z1 rfl fun h => V.xa (V.eo h 2 s2)
  ·exact V.z1 rfl fun h => V.xl (V.ed h 0 10 rfl) (V.lo h.g.1.2.2.2.1 rfl)
  ·exact V.z1 rfl fun h => V.xa (V.eo h 3 s3)
  ·exact V.z1 rfl fun h => V.xl (V.ed h 2 12 rfl) (V.lo h.g.1.2.2.2.2.1 rfl)
  ·refine V.s2 rfl fun f W h => ?_
   refine V.call en104 (V.args2 (V.ed h 1 11 rfl) (V.ed h 3 13 rfl)) (Calls.mono (RCommon1 (m := m) (n := k) h.g.1.1 h.g.1.2.1 hm0 hk') ?_)
   rintro e W' ⟨A84, c85, rfl, k86, hb⟩
   exact ⟨_, rfl, ⟨A84, c85, rfl, k86⟩, hb⟩
  ·refine V.s2 rfl fun f W h => ?_
   obtain ⟨A84, c85, a14, k4_0⟩ := V.dp h 4 14 (by kernel_rfl) rfl
   exact V.v2 (Vs A84 (Nat.gcd m k) c85) (V.xs (V.ev_tmp rfl a14)) ⟨A84, c85, rfl, k4_0⟩
 intro f89 W90 e91
 clear h h' hb bg78 bg79 bg80
 obtain ⟨⟨h, h', hb, bg78, bg79, bg80⟩, z_⟩ := e91.g
 obtain ⟨s0, s1, s2, s3, s4⟩ := V.e5 e91 s0 s1 s2 s3 s4
 obtain ⟨A87, c88, s5, r92⟩ := V.eq e91 5 5 rfl
 clear e91 z_
 refine V.t_done rfl (V.nx (V.seq (V.seq ?_)))
 refine V.reg 2 [V.E (Vs A87 (Nat.gcd m k) c88), V.E (.bool (decide (Nat.gcd m k = 1)))] [] (V.i h (V.i h' (V.i hb (V.i bg78 (V.i bg79 (V.i bg80 r92)))))) ?_ ?_
 ·refine V.a2 ?_ ?_
  ·exact V.mo rfl 5 s5
  ·refine V.s2 rfl fun f W h => ?_
   refine V.call en105 (V.args1 (V.ed h 0 15 rfl)) (Calls.mono (ROne h.g.1.2.2.2.2.2.2) ?_)
   rintro e W' ⟨rfl, hb⟩
   exact ⟨_, rfl, rfl, hb⟩
 intro f93 W94 e95
 clear h h' hb bg78 bg79 bg80 r92
 obtain ⟨⟨h, h', hb, bg78, bg79, bg80, r92⟩, z_⟩ := e95.g
 obtain ⟨s0, s1, s2, s3, s4, s5⟩ := V.e6 e95 s0 s1 s2 s3 s4 s5
 have s16 := V.es e95 1 16 rfl
 clear e95 z_
 refine V.t_done rfl (V.nx ?_)
 cases hc96 : (decide (Nat.gcd m k = 1))
 ·have s16_ : f93 16 = .bool false := s16.trans (by rw [hc96])
  refine V.cond_f (V.ev_tmp rfl s16_) ?_
  refine V.skip ?_
  refine V.nx (V.seq ?_)
  refine V.reg 9 [V.E (Vp g78 1), V.E (Vs A m c), V.E (Vs A87 (Nat.gcd m k) c88), (fun v W => ∃ A97 : Option Addr, ∃ c98 : Nat, ∃ A99 : Option Addr, ∃ c100 : Nat, v = .tuple #[Vs A97 (m / (Nat.gcd m k)) c98, Vs A99 (m % (Nat.gcd m k)) c100] ∧ R16 W A97 ((Lb.limbs (m / (Nat.gcd m k))).length) c98 (Lb.limbs (m / (Nat.gcd m k))) ∧ R16 W A99 ((Lb.limbs (m % (Nat.gcd m k))).length) c100 (Lb.limbs (m % (Nat.gcd m k)))), (fun v W => ∃ A103 : Option Addr, ∃ c104 : Nat, ∃ A105 : Option Addr, ∃ c106 : Nat, v = .tuple #[Vs A103 (m / (Nat.gcd m k)) c104, Vs A105 (m % (Nat.gcd m k)) c106] ∧ R16 W A103 ((Lb.limbs (m / (Nat.gcd m k))).length) c104 (Lb.limbs (m / (Nat.gcd m k))) ∧ R16 W A105 ((Lb.limbs (m % (Nat.gcd m k))).length) c106 (Lb.limbs (m % (Nat.gcd m k)))), (fun v W => ∃ A107 : Option Addr, ∃ c108 : Nat, v = Vs A107 (m / (Nat.gcd m k)) c108 ∧ R16 W A107 ((Lb.limbs (m / (Nat.gcd m k))).length) c108 (Lb.limbs (m / (Nat.gcd m k)))), (fun v W => ∃ A109 : Option Addr, ∃ c110 : Nat, v = Vs A109 (m % (Nat.gcd m k)) c110 ∧ R16 W A109 ((Lb.limbs (m % (Nat.gcd m k))).length) c110 (Lb.limbs (m % (Nat.gcd m k)))), (fun v W => ∃ A111 : Option Addr, ∃ c112 : Nat, v = Vs A111 (m / (Nat.gcd m k)) c112 ∧ R16 W A111 ((Lb.limbs (m / (Nat.gcd m k))).length) c112 (Lb.limbs (m / (Nat.gcd m k)))), (fun v W => ∃ A113 : Option Addr, ∃ c114 : Nat, v = Vs A113 (m % (Nat.gcd m k)) c114 ∧ R16 W A113 ((Lb.limbs (m % (Nat.gcd m k))).length) c114 (Lb.limbs (m % (Nat.gcd m k))))] [] (V.i h (V.i h' (V.i hb (V.i bg78 (V.i bg79 (V.i bg80 r92)))))) ?_ ?_
  ·refine V.b8 ?_ ?_ ?_ ?_ ?_ ?_ ?_ ?_ (V.ac ?_ V.an)
   ·exact V.z1 rfl fun h => V.xa (V.eo h 2 s2)
   ·exact V.z1 rfl fun h => V.xl (V.ed h 0 30 rfl) (V.lo h.g.1.2.2.2.1 rfl)
   ·exact V.mo rfl 5 s5
   ·refine V.s2 rfl fun f W h => ?_
    refine V.call en106 (V.args2 (V.ed h 1 31 rfl) (V.ed h 2 32 rfl)) (Calls.mono (RDiv1 (a := m) (d := (Nat.gcd m k)) h.g.1.1 h.g.1.2.2.2.2.2.2 (small_len (by omega)) hg0 hg') ?_)
    rintro e W' ⟨A97, c98, A99, c100, rfl, k101, k102, hb⟩
    exact ⟨_, rfl, ⟨A97, c98, A99, c100, rfl, k101, k102⟩, hb⟩
   ·refine V.s2 rfl fun f W h => ?_
    obtain ⟨A97, c98, A99, c100, a33, k3_0, k3_1⟩ := V.dp h 3 33 (by kernel_rfl) rfl
    exact V.v2 (.tuple #[Vs A97 (m / (Nat.gcd m k)) c98, Vs A99 (m % (Nat.gcd m k)) c100]) (V.xm (V.ev_tmp rfl a33)) ⟨A97, c98, A99, c100, rfl, k3_0, k3_1⟩
   ·refine V.s2 rfl fun f W h => ?_
    obtain ⟨A103, c104, A105, c106, a29, k4_0, k4_1⟩ := V.dp h 4 29 (by kernel_rfl) rfl
    exact V.v2 (Vs A103 (m / (Nat.gcd m k)) c104) (V.xe (V.ev_tmp rfl a29)) ⟨A103, c104, rfl, k4_0⟩
   ·refine V.s2 rfl fun f W h => ?_
    obtain ⟨A103, c104, A105, c106, a29, k4_0, k4_1⟩ := V.dp h 4 29 (by kernel_rfl) rfl
    exact V.v2 (Vs A105 (m % (Nat.gcd m k)) c106) (V.xe (V.ev_tmp rfl a29)) ⟨A105, c106, rfl, k4_1⟩
   ·refine V.s2 rfl fun f W h => ?_
    obtain ⟨A107, c108, a34, k5_0⟩ := V.dp h 5 34 (by kernel_rfl) rfl
    exact V.v2 (Vs A107 (m / (Nat.gcd m k)) c108) (V.xs (V.ev_tmp rfl a34)) ⟨A107, c108, rfl, k5_0⟩
   ·refine V.s2 rfl fun f W h => ?_
    obtain ⟨A109, c110, a35, k6_0⟩ := V.dp h 6 35 (by kernel_rfl) rfl
    exact V.v2 (Vs A109 (m % (Nat.gcd m k)) c110) (V.xs (V.ev_tmp rfl a35)) ⟨A109, c110, rfl, k6_0⟩
  intro f115 W116 e117
  clear h h' hb bg78 bg79 bg80 r92
  obtain ⟨⟨h, h', hb, bg78, bg79, bg80, r92⟩, z_⟩ := e117.g
  obtain ⟨s0, s1, s2, s3, s4, s5⟩ := V.e6 e117 s0 s1 s2 s3 s4 s5
  obtain ⟨A111, c112, s6, r118⟩ := V.eq e117 7 6 rfl
  clear e117 z_
  refine V.t_done rfl (V.nx (V.seq ?_))
  refine V.reg 9 [V.E (Vp g79 1), V.E (Vs B k c'), V.E (Vs A87 (Nat.gcd m k) c88), (fun v W => ∃ A119 : Option Addr, ∃ c120 : Nat, ∃ A121 : Option Addr, ∃ c122 : Nat, v = .tuple #[Vs A119 (k / (Nat.gcd m k)) c120, Vs A121 (k % (Nat.gcd m k)) c122] ∧ R16 W A119 ((Lb.limbs (k / (Nat.gcd m k))).length) c120 (Lb.limbs (k / (Nat.gcd m k))) ∧ R16 W A121 ((Lb.limbs (k % (Nat.gcd m k))).length) c122 (Lb.limbs (k % (Nat.gcd m k)))), (fun v W => ∃ A125 : Option Addr, ∃ c126 : Nat, ∃ A127 : Option Addr, ∃ c128 : Nat, v = .tuple #[Vs A125 (k / (Nat.gcd m k)) c126, Vs A127 (k % (Nat.gcd m k)) c128] ∧ R16 W A125 ((Lb.limbs (k / (Nat.gcd m k))).length) c126 (Lb.limbs (k / (Nat.gcd m k))) ∧ R16 W A127 ((Lb.limbs (k % (Nat.gcd m k))).length) c128 (Lb.limbs (k % (Nat.gcd m k)))), (fun v W => ∃ A129 : Option Addr, ∃ c130 : Nat, v = Vs A129 (k / (Nat.gcd m k)) c130 ∧ R16 W A129 ((Lb.limbs (k / (Nat.gcd m k))).length) c130 (Lb.limbs (k / (Nat.gcd m k)))), (fun v W => ∃ A131 : Option Addr, ∃ c132 : Nat, v = Vs A131 (k % (Nat.gcd m k)) c132 ∧ R16 W A131 ((Lb.limbs (k % (Nat.gcd m k))).length) c132 (Lb.limbs (k % (Nat.gcd m k)))), (fun v W => ∃ A133 : Option Addr, ∃ c134 : Nat, v = Vs A133 (k / (Nat.gcd m k)) c134 ∧ R16 W A133 ((Lb.limbs (k / (Nat.gcd m k))).length) c134 (Lb.limbs (k / (Nat.gcd m k)))), (fun v W => ∃ A135 : Option Addr, ∃ c136 : Nat, v = Vs A135 (k % (Nat.gcd m k)) c136 ∧ R16 W A135 ((Lb.limbs (k % (Nat.gcd m k))).length) c136 (Lb.limbs (k % (Nat.gcd m k))))] [] (V.i h (V.i h' (V.i hb (V.i bg78 (V.i bg79 (V.i bg80 (V.i r92 r118))))))) ?_ ?_
  ·refine V.b8 ?_ ?_ ?_ ?_ ?_ ?_ ?_ ?_ (V.ac ?_ V.an)
   ·exact V.z1 rfl fun h => V.xa (V.eo h 3 s3)
   ·exact V.z1 rfl fun h => V.xl (V.ed h 0 37 rfl) (V.lo h.g.1.2.2.2.2.1 rfl)
   ·exact V.mo rfl 5 s5
   ·refine V.s2 rfl fun f W h => ?_
    refine V.call en106 (V.args2 (V.ed h 1 38 rfl) (V.ed h 2 39 rfl)) (Calls.mono (RDiv1 (a := k) (d := (Nat.gcd m k)) h.g.1.2.1 h.g.1.2.2.2.2.2.2.1 (small_len (by omega)) hg0 hg') ?_)
    rintro e W' ⟨A119, c120, A121, c122, rfl, k123, k124, hb⟩
    exact ⟨_, rfl, ⟨A119, c120, A121, c122, rfl, k123, k124⟩, hb⟩
   ·refine V.s2 rfl fun f W h => ?_
    obtain ⟨A119, c120, A121, c122, a40, k3_0, k3_1⟩ := V.dp h 3 40 (by kernel_rfl) rfl
    exact V.v2 (.tuple #[Vs A119 (k / (Nat.gcd m k)) c120, Vs A121 (k % (Nat.gcd m k)) c122]) (V.xm (V.ev_tmp rfl a40)) ⟨A119, c120, A121, c122, rfl, k3_0, k3_1⟩
   ·refine V.s2 rfl fun f W h => ?_
    obtain ⟨A125, c126, A127, c128, a36, k4_0, k4_1⟩ := V.dp h 4 36 (by kernel_rfl) rfl
    exact V.v2 (Vs A125 (k / (Nat.gcd m k)) c126) (V.xe (V.ev_tmp rfl a36)) ⟨A125, c126, rfl, k4_0⟩
   ·refine V.s2 rfl fun f W h => ?_
    obtain ⟨A125, c126, A127, c128, a36, k4_0, k4_1⟩ := V.dp h 4 36 (by kernel_rfl) rfl
    exact V.v2 (Vs A127 (k % (Nat.gcd m k)) c128) (V.xe (V.ev_tmp rfl a36)) ⟨A127, c128, rfl, k4_1⟩
   ·refine V.s2 rfl fun f W h => ?_
    obtain ⟨A129, c130, a41, k5_0⟩ := V.dp h 5 41 (by kernel_rfl) rfl
    exact V.v2 (Vs A129 (k / (Nat.gcd m k)) c130) (V.xs (V.ev_tmp rfl a41)) ⟨A129, c130, rfl, k5_0⟩
   ·refine V.s2 rfl fun f W h => ?_
    obtain ⟨A131, c132, a42, k6_0⟩ := V.dp h 6 42 (by kernel_rfl) rfl
    exact V.v2 (Vs A131 (k % (Nat.gcd m k)) c132) (V.xs (V.ev_tmp rfl a42)) ⟨A131, c132, rfl, k6_0⟩
  intro f137 W138 e139
  clear h h' hb bg78 bg79 bg80 r92 r118
  obtain ⟨⟨h, h', hb, bg78, bg79, bg80, r92, r118⟩, z_⟩ := e139.g
  obtain ⟨s0, s1, s2, s3, s4, s6⟩ := V.e6 e139 s0 s1 s2 s3 s4 s6
  obtain ⟨A133, c134, s8, r140⟩ := V.eq e139 7 8 rfl
  clear e139 z_
  refine V.t_done rfl (V.nx (V.seq ?_))
  clear r92
  refine V.reg 10 [V.E (Vp g78 0), V.E (.bool false), V.E (Vp g79 0), V.E (.bool false), V.E (.bool (false != false)), V.E (Vs A111 (m / (Nat.gcd m k)) c112), V.E (.agg #[.bool ((false != false) && decide (0 < ((Lb.limbs (m / (Nat.gcd m k))).length : Int))), Vs A111 (m / (Nat.gcd m k)) c112]), V.E (Vs A133 (k / (Nat.gcd m k)) c134), V.E (.agg #[.bool (false && decide (0 < ((Lb.limbs (k / (Nat.gcd m k))).length : Int))), Vs A133 (k / (Nat.gcd m k)) c134]), V.E (.agg #[.bool ((false != false) && decide (0 < ((Lb.limbs (m / (Nat.gcd m k))).length : Int))), Vs A111 (m / (Nat.gcd m k)) c112, .bool (false && decide (0 < ((Lb.limbs (k / (Nat.gcd m k))).length : Int))), Vs A133 (k / (Nat.gcd m k)) c134])] [] (V.i h (V.i h' (V.i hb (V.i bg78 (V.i bg79 (V.i bg80 (V.i r118 r140))))))) ?_ ?_
  ·refine V.b8 ?_ ?_ ?_ ?_ ?_ ?_ ?_ ?_ (V.a2 ?_ ?_)
   ·exact V.z1 rfl fun h => V.xa (V.eo h 2 s2)
   ·exact V.z1 rfl fun h => V.xl (V.ed h 0 43 rfl) (V.lo h.g.1.2.2.2.1 rfl)
   ·exact V.z1 rfl fun h => V.xa (V.eo h 3 s3)
   ·exact V.z1 rfl fun h => V.xl (V.ed h 2 45 rfl) (V.lo h.g.1.2.2.2.2.1 rfl)
   ·exact V.z1 rfl fun h => V.xb (V.ed h 1 44 rfl) (V.ed h 3 46 rfl)
   ·exact V.mo rfl 6 s6
   ·refine V.s2 rfl fun f W h => ?_
    refine V.call en91 (V.args2 (V.ed h 4 47 rfl) (V.ed h 5 48 rfl)) (Calls.mono (RMake) ?_)
    rintro e W' ⟨rfl, hb⟩
    exact ⟨_, rfl, rfl, hb⟩
   ·exact V.mo rfl 8 s8
   ·refine V.s2 rfl fun f W h => ?_
    refine V.call en91 (V.args2 rfl (V.ed h 7 50 rfl)) (Calls.mono (RMake) ?_)
    rintro e W' ⟨rfl, hb⟩
    exact ⟨_, rfl, rfl, hb⟩
   ·exact V.z1 rfl fun h => V.b2 (V.ed h 6 49 rfl) (V.ed h 8 51 rfl)
  intro f141 W142 e143
  clear h h' hb bg78 bg79 bg80 r118 r140
  obtain ⟨⟨h, h', hb, bg78, bg79, bg80, r118, r140⟩, z_⟩ := e143.g
  obtain ⟨s0, s1, s4⟩ := V.e3 e143 s0 s1 s4
  have s52 := V.es e143 9 52 rfl
  clear e143 z_
  refine V.tsr (k := 10) rfl s4 s52 bg80 fun W144 hs b' => ?_
  replace h := hs.r16 h
  replace h' := hs.r16 h'
  replace hb := hs.bel hb mg80
  replace bg78 := hs.blk bg78 q78_80
  replace bg79 := hs.blk bg79 q79_80
  replace r118 := hs.r16 r118
  replace r140 := hs.r16 r140
  replace bg80 := b'
  clear hs b'
  refine V.t_done rfl (V.nx (V.ret ?_))
  refine V.leave_any (.inl rfl) (V.res_cell rfl rfl s4 (V.lr bg80 Tryz.underlying39 rfl (by kernel_rfl))) ?_
  exact ⟨⟨A111, c112, A133, c134, _⟩, by rw [nat_div_v m k (by omega)]; rfl, nat_div_ok (by omega) r118 r140, rfl, hb⟩
 ·have s16_ : f93 16 = .bool true := s16.trans (by rw [hc96])
  refine V.cond_t (V.ev_tmp rfl s16_) ?_
  have hg1 : Nat.gcd m k = 1 := of_decide_eq_true hc96
  refine V.seq ?_
  refine V.reg 12 [V.E (Vp g78 0), V.E (.bool false), V.E (Vp g79 0), V.E (.bool false), V.E (.bool (false != false)), V.E (Vp g78 1), V.E (Vs A m c), V.E (.agg #[.bool ((false != false) && decide (0 < ((Lb.limbs m).length : Int))), Vs A m c]), V.E (Vp g79 1), V.E (Vs B k c'), V.E (.agg #[.bool (false && decide (0 < ((Lb.limbs k).length : Int))), Vs B k c']), V.E (.agg #[.bool ((false != false) && decide (0 < ((Lb.limbs m).length : Int))), Vs A m c, .bool (false && decide (0 < ((Lb.limbs k).length : Int))), Vs B k c'])] [] (V.i h (V.i h' (V.i hb (V.i bg78 (V.i bg79 (V.i bg80 r92)))))) ?_ ?_
  ·refine V.b8 ?_ ?_ ?_ ?_ ?_ ?_ ?_ ?_ (V.a4 ?_ ?_ ?_ ?_)
   ·exact V.z1 rfl fun h => V.xa (V.eo h 2 s2)
   ·exact V.z1 rfl fun h => V.xl (V.ed h 0 17 rfl) (V.lo h.g.1.2.2.2.1 rfl)
   ·exact V.z1 rfl fun h => V.xa (V.eo h 3 s3)
   ·exact V.z1 rfl fun h => V.xl (V.ed h 2 19 rfl) (V.lo h.g.1.2.2.2.2.1 rfl)
   ·exact V.z1 rfl fun h => V.xb (V.ed h 1 18 rfl) (V.ed h 3 20 rfl)
   ·exact V.z1 rfl fun h => V.xa (V.eo h 2 s2)
   ·exact V.z1 rfl fun h => V.xl (V.ed h 5 22 rfl) (V.lo h.g.1.2.2.2.1 rfl)
   ·refine V.s2 rfl fun f W h => ?_
    refine V.call en91 (V.args2 (V.ed h 4 21 rfl) (V.ed h 6 23 rfl)) (Calls.mono (RMake) ?_)
    rintro e W' ⟨rfl, hb⟩
    exact ⟨_, rfl, rfl, hb⟩
   ·exact V.z1 rfl fun h => V.xa (V.eo h 3 s3)
   ·exact V.z1 rfl fun h => V.xl (V.ed h 8 25 rfl) (V.lo h.g.1.2.2.2.2.1 rfl)
   ·refine V.s2 rfl fun f W h => ?_
    refine V.call en91 (V.args2 rfl (V.ed h 9 26 rfl)) (Calls.mono (RMake) ?_)
    rintro e W' ⟨rfl, hb⟩
    exact ⟨_, rfl, rfl, hb⟩
   ·exact V.z1 rfl fun h => V.b2 (V.ed h 7 24 rfl) (V.ed h 10 27 rfl)
  intro f145 W146 e147
  clear h h' hb bg78 bg79 bg80 r92
  obtain ⟨⟨h, h', hb, bg78, bg79, bg80, r92⟩, z_⟩ := e147.g
  obtain ⟨s0, s1, s2, s3, s4, s5⟩ := V.e6 e147 s0 s1 s2 s3 s4 s5
  have s28 := V.es e147 11 28 rfl
  clear e147 z_
  refine V.tsr (k := 12) rfl s4 s28 bg80 fun W148 hs b' => ?_
  replace h := hs.r16 h
  replace h' := hs.r16 h'
  replace hb := hs.bel hb mg80
  replace bg78 := hs.blk bg78 q78_80
  replace bg79 := hs.blk bg79 q79_80
  replace r92 := hs.r16 r92
  replace bg80 := b'
  clear hs b'
  refine V.t_done rfl (V.nx (V.ret (V.tr ?_)))
  refine V.leave_any (.inl rfl) (V.res_cell rfl rfl s4 (V.lr bg80 Tryz.underlying39 rfl (by kernel_rfl))) ?_
  exact ⟨⟨A, c, B, c', _⟩, by rw [nat_div_v m k (by omega), hg1, Nat.div_one, Nat.div_one]; rfl, nat_div_ok (by omega) (by rw [hg1, Nat.div_one]; exact h) (by rw [hg1, Nat.div_one]; exact h'), rfl, hb⟩
theorem RQuick {m k : Nat} {w : World} (hm0 : m < 65536) (hk0 : 0 < k) (hk' : k < 65536) :
    Calls Tryz.prog 29 #[.int .i64 (m : Int), .int .i64 (k : Int)] w fun e w' => ∃ z : Fr, e = .returned z.v ∧ Fr.ok w' z ∧ z.q = ((m : Nat) : Rat) / ((k : Nat) : Rat) ∧ Below w.heap.size w w' := by
 refine V.nt Tryz.func29 rfl rfl fun f0 hf => ?_
 have s0 : f0 0 = .int .i64 (m : Int) := hf 0 (by simp)
 have s1 : f0 1 = .int .i64 (k : Int) := hf 1 (by simp)
 clear hf
 have hb := Below.refl w.heap.size w
 refine V.seq ?_
 refine V.reg 1 [V.Nb w 39 #[.bool false, .slice none 0 0, .bool false, .slice none 0 0]] [0] hb ?_ ?_
 ·refine V.ac ?_ V.an
  ·exact V.sn rfl fun f W h => V.x_alloc
 have o_bel := hb.size
 intro f150 W151 e152
 clear hb
 obtain ⟨hb, z_⟩ := e152.g
 obtain ⟨s0, s1⟩ := V.e2 e152 s0 s1
 obtain ⟨g149, s4, bg149, lg149⟩ := V.eq e152 0 4 rfl
 have mg149 := Nat.le_trans o_bel lg149
 clear e152 z_
 clear o_bel
 refine V.t_done rfl (V.nx (V.seq ?_))
 refine V.reg 5 [V.E (.int .i64 (m : Int)), (fun v W => ∃ A153 : Option Addr, ∃ c154 : Nat, v = .agg #[.bool false, Vs A153 m c154] ∧ R16 W A153 ((Lb.limbs m).length) c154 (Lb.limbs m)), V.E (.int .i64 (k : Int)), (fun v W => ∃ A156 : Option Addr, ∃ c157 : Nat, v = .agg #[.bool false, Vs A156 k c157] ∧ R16 W A156 ((Lb.limbs k).length) c157 (Lb.limbs k)), (fun v W => ∃ z159 : Fr, v = z159.v ∧ Fr.ok W z159 ∧ (z159.q = (((m : Nat) : Rat) / ((k : Nat) : Rat))))] [] (V.i hb bg149) ?_ ?_
 ·refine V.a5 ?_ ?_ ?_ ?_ ?_
  ·exact V.mo rfl 0 s0
  ·refine V.s2 rfl fun f W h => ?_
   refine V.call en52 (V.args1 (V.ed h 0 5 rfl)) (Calls.mono (RFromInt (vv := m) (by omega)) ?_)
   rintro e W' ⟨A153, c154, rfl, k155, hb⟩
   exact ⟨_, rfl, ⟨A153, c154, rfl, k155⟩, hb⟩
  ·exact V.mo rfl 1 s1
  ·refine V.s2 rfl fun f W h => ?_
   refine V.call en52 (V.args1 (V.ed h 2 7 rfl)) (Calls.mono (RFromInt (vv := k) (by omega)) ?_)
   rintro e W' ⟨A156, c157, rfl, k158, hb⟩
   exact ⟨_, rfl, ⟨A156, c157, rfl, k158⟩, hb⟩
  ·refine V.s2 rfl fun f W h => ?_
   obtain ⟨A153, c154, a6, k1_0⟩ := V.dp h 1 6 (by kernel_rfl) rfl
   obtain ⟨A156, c157, a8, k3_0⟩ := V.dp h 3 8 (by kernel_rfl) rfl
   refine V.call en65 (V.args2 (V.ev_tmp rfl a6) (V.ev_tmp rfl a8)) (Calls.mono (RLowest1 (m := m) (k := k) k1_0 k3_0 hm0 hk0 hk') ?_)
   rintro e W' ⟨z159, rfl, k160, e161, hb⟩
   exact ⟨_, rfl, ⟨z159, rfl, k160, e161⟩, hb⟩
 intro f162 W163 e164
 clear hb bg149
 obtain ⟨⟨hb, bg149⟩, z_⟩ := e164.g
 obtain ⟨s0, s1, s4⟩ := V.e3 e164 s0 s1 s4
 obtain ⟨z159, s9, r165, n166⟩ := V.eq e164 4 9 rfl
 clear e164 z_
 refine V.tsr (k := 5) rfl s4 s9 bg149 fun W167 hs b' => ?_
 replace hb := hs.bel hb mg149
 replace r165 := hs.fr r165
 replace bg149 := b'
 clear hs b'
 refine V.t_done rfl (V.nx (V.ret ?_))
 refine V.leave_any (.inl rfl) (V.res_cell rfl rfl s4 (V.lr bg149 Tryz.underlying39 rfl (by kernel_rfl))) ?_
 exact ⟨z159, rfl, r165, n166, hb⟩
end Go.Proofs.YtjbcalbbhomkjaaGreat
namespace Go.Proofs.YtjbcalbbhomkjaaGreat
instance {r : Nat → Rat} {a b : Nat} : Decidable (Ahead r a b) := by unfold Ahead; infer_instance
def rr (e : List Rat) (j : Nat) : Rat := e[j]?.getD 0 - ((fl (e[j]?.getD 0) : Int) : Rat)
theorem rest_rr {t : Rat} {l : List Cl} {e : List Rat} (h : ev t l = e) : rest t l = rr e := by
 funext j; unfold rest rr; rw [h]
theorem PartsOf.told {a : Int} {l : List Cl} {t : Rat} {ys : List Nat} {m : Nat} {rs : List Int} (h : PartsOf a l t ys m rs) {e : List Rat} {zs : List Nat} {k : Nat} (he : ev t l = e) (hz : Rnk (rr e) l.length zs) (hk : (k : Int) = tot a l - isum (e.map fl)) : rs = incs zs (e.map fl) k := by
 have h1 := h.ord
 rw [rest_rr he] at h1
 have hm : m = k := by have := h.hm; rw [he] at this; omega
 rw [h.rs, h1.uniq hz, he, hm]
theorem sz_nat {k : Nat} (h : k < 65536) : Q.Sz 4 ((k : Nat) : Rat) := by
 have e : ((k : Nat) : Rat) = (((k : Nat) : Int) : Rat) := rfl
 refine ⟨?_, ?_⟩
 ·rw [e, Q.int_m]; exact Nat.lt_of_lt_of_le (show (k : Int).natAbs < 65536 by omega) (by decide)
 ·rw [e, Q.int_den]; decide
def All (l : List Cl) : Prop := ∃ x y z : Fr, l = [⟨1, x, 9⟩, ⟨2, y, 9⟩, ⟨3, z, 9⟩] ∧ x.q = ((1 : Nat) : Rat) ∧ y.q = ((1 : Nat) : Rat) ∧ z.q = ((1 : Nat) : Rat)
theorem good_nat {i c : Int} {x : Fr} {k : Nat} (hx : x.q = ((k : Nat) : Rat)) (hk : k < 65536) (h0 : 0 ≤ c) (h1 : c ≤ 1099511627776) : (⟨i, x, c⟩ : Cl).good :=
 ⟨h0, h1, by simp only [hx]; exact sz_nat hk, by simp only [hx]; exact Rat.intCast_nonneg.2 (Int.natCast_nonneg k)⟩
theorem valid3 {a b c : Cl} (ha : a.good) (hb : b.good) (hc : c.good) (h1 : a.id < b.id) (h2 : b.id < c.id) : ValidC [a, b, c] := by
 refine ⟨by simp, fun x hx => ?_, fun j p q hp hq => ?_⟩
 ·simp at hx; rcases hx with rfl | rfl | rfl <;> assumption
 ·match j with
  | 0 => simp at hp hq; subst hp; subst hq; exact h1
  | 1 => simp at hp hq; subst hp; subst hq; exact h2
  | j + 2 => simp at hq
theorem Three.valid {l : List Cl} (h : Three l) : ValidC l := by
 obtain ⟨x, y, z, rfl, hx, hy, hz⟩ := h
 exact valid3 (good_nat hx (by decide) (by decide) (by decide)) (good_nat hy (by decide) (by decide) (by decide)) (good_nat hz (by decide) (by decide) (by decide)) (by show (1 : Int) < 2; decide) (by show (2 : Int) < 5; decide)
theorem All.valid {l : List Cl} (h : All l) : ValidC l := by
 obtain ⟨x, y, z, rfl, hx, hy, hz⟩ := h
 exact valid3 (good_nat hx (by decide) (by decide) (by decide)) (good_nat hy (by decide) (by decide) (by decide)) (good_nat hz (by decide) (by decide) (by decide)) (by show (1 : Int) < 2; decide) (by show (2 : Int) < 3; decide)
theorem Three.len {l : List Cl} (h : Three l) : l.length = 3 := by obtain ⟨x, y, z, rfl, _⟩ := h; rfl
theorem All.len {l : List Cl} (h : All l) : l.length = 3 := by obtain ⟨x, y, z, rfl, _⟩ := h; rfl
theorem nz_nat {i c : Int} {x : Fr} {k : Nat} (hx : x.q = ((k : Nat) : Rat)) (hk : k ≠ 0) : nz (⟨i, x, c⟩ : Cl) = true := by
 unfold nz; rw [hx]; exact decide_eq_true fun h => hk (by have := Rat.natCast_eq_zero_iff.1 h; exact this)
theorem Three.tot {l : List Cl} (h : Three l) (a : Int) : tot a l = min 210 a := by
 obtain ⟨x, y, z, rfl, hx, hy, hz⟩ := h
 unfold Go.Proofs.YtjbcalbbhomkjaaGreat.tot
 rw [List.filter_cons_of_pos (nz_nat hx (by decide)), List.filter_cons_of_pos (nz_nat hy (by decide)), List.filter_cons_of_pos (nz_nat hz (by decide))]; rfl
theorem All.tot {l : List Cl} (h : All l) (a : Int) : tot a l = min 27 a := by
 obtain ⟨x, y, z, rfl, hx, hy, hz⟩ := h
 unfold Go.Proofs.YtjbcalbbhomkjaaGreat.tot
 rw [List.filter_cons_of_pos (nz_nat hx (by decide)), List.filter_cons_of_pos (nz_nat hy (by decide)), List.filter_cons_of_pos (nz_nat hz (by decide))]; rfl
theorem Three.ev {l : List Cl} (h : Three l) (t : Rat) : ev t l = [min ((100 : Int) : Rat) (t * ((1 : Nat) : Rat)), min ((10 : Int) : Rat) (t * ((1 : Nat) : Rat)), min ((100 : Int) : Rat) (t * ((2 : Nat) : Rat))] := by
 obtain ⟨x, y, z, rfl, hx, hy, hz⟩ := h
 simp only [Go.Proofs.YtjbcalbbhomkjaaGreat.ev, List.map_cons, List.map_nil, hx, hy, hz]
theorem All.ev {l : List Cl} (h : All l) (t : Rat) : ev t l = [min ((9 : Int) : Rat) (t * ((1 : Nat) : Rat)), min ((9 : Int) : Rat) (t * ((1 : Nat) : Rat)), min ((9 : Int) : Rat) (t * ((1 : Nat) : Rat))] := by
 obtain ⟨x, y, z, rfl, hx, hy, hz⟩ := h
 simp only [Go.Proofs.YtjbcalbbhomkjaaGreat.ev, List.map_cons, List.map_nil, hx, hy, hz]
theorem Three.S {l : List Cl} (h : Three l) (t : Rat) : S t l = min ((100 : Int) : Rat) (t * ((1 : Nat) : Rat)) + (min ((10 : Int) : Rat) (t * ((1 : Nat) : Rat)) + (min ((100 : Int) : Rat) (t * ((2 : Nat) : Rat)) + 0)) := by
 obtain ⟨x, y, z, rfl, hx, hy, hz⟩ := h
 simp only [Go.Proofs.YtjbcalbbhomkjaaGreat.S, hx, hy, hz]
theorem All.S {l : List Cl} (h : All l) (t : Rat) : S t l = min ((9 : Int) : Rat) (t * ((1 : Nat) : Rat)) + (min ((9 : Int) : Rat) (t * ((1 : Nat) : Rat)) + (min ((9 : Int) : Rat) (t * ((1 : Nat) : Rat)) + 0)) := by
 obtain ⟨x, y, z, rfl, hx, hy, hz⟩ := h
 simp only [Go.Proofs.YtjbcalbbhomkjaaGreat.S, hx, hy, hz]
theorem Three.first {l : List Cl} (h : Three l) {t : Rat} (ht : t * ((1 : Nat) : Rat) ≤ ((100 : Int) : Rat)) : ∃ x ∈ l, 0 < x.w.q ∧ t * x.w.q ≤ ((x.cap : Int) : Rat) := by
 obtain ⟨x, y, z, rfl, hx, hy, hz⟩ := h
 exact ⟨_, List.mem_cons_self, by simp only [hx]; decide +kernel, by simp only [hx]; exact ht⟩
theorem All.first {l : List Cl} (h : All l) {t : Rat} (ht : t * ((1 : Nat) : Rat) ≤ ((9 : Int) : Rat)) : ∃ x ∈ l, 0 < x.w.q ∧ t * x.w.q ≤ ((x.cap : Int) : Rat) := by
 obtain ⟨x, y, z, rfl, hx, hy, hz⟩ := h
 exact ⟨_, List.mem_cons_self, by simp only [hx]; decide +kernel, by simp only [hx]; exact ht⟩
theorem Three.is50 {l : List Cl} (h : Three l) : IsLev 50 l (((40 : Nat) : Rat) / ((3 : Nat) : Rat)) := ⟨by decide +kernel, by rw [h.S, h.tot]; decide +kernel, .inr (h.first (by decide +kernel))⟩
theorem Three.is500 {l : List Cl} (h : Three l) : IsLev 500 l ((100 : Nat) : Rat) := ⟨by decide +kernel, by rw [h.S, h.tot]; decide +kernel, .inr (h.first (by decide +kernel))⟩
theorem All.is2 {l : List Cl} (h : All l) : IsLev 2 l (((2 : Nat) : Rat) / ((3 : Nat) : Rat)) := ⟨by decide +kernel, by rw [h.S, h.tot]; decide +kernel, .inr (h.first (by decide +kernel))⟩
theorem Three.lev50 {l : List Cl} {t : Rat} (h : Three l) (ht : LevOf 50 l t) : t = ((40 : Nat) : Rat) / ((3 : Nat) : Rat) := (ht.is h.valid.g (by decide)).uniq h.is50 h.valid.g
theorem Three.lev500 {l : List Cl} {t : Rat} (h : Three l) (ht : LevOf 500 l t) : t = ((100 : Nat) : Rat) := (ht.is h.valid.g (by decide)).uniq h.is500 h.valid.g
theorem lev7 {t : Rat} (ht : LevOf 7 [] t) : t = 0 := by
 rcases (ht.is (fun x hx => by cases hx) (by decide)).top with h | ⟨x, hx, _⟩
 ·exact h
 ·cases hx
theorem Three.p50 {l : List Cl} {t : Rat} {ys : List Nat} {m : Nat} {rs : List Int} (h : Three l) (hp : PartsOf 50 l t ys m rs) : rs = [13, 10, 27] := by
 have ht := hp.lev.uniq h.is50 h.valid.g
 subst ht
 rw [hp.told (zs := [2, 0, 1]) (k := 1) (h.ev _) (by rw [h.len]; exact ⟨by decide, by decide +kernel⟩) (by rw [h.tot]; decide +kernel)]
 decide +kernel
theorem Three.p500 {l : List Cl} {t : Rat} {ys : List Nat} {m : Nat} {rs : List Int} (h : Three l) (hp : PartsOf 500 l t ys m rs) : rs = [100, 10, 100] := by
 have ht := hp.lev.uniq h.is500 h.valid.g
 subst ht
 rw [hp.told (zs := [0, 1, 2]) (k := 0) (h.ev _) (by rw [h.len]; exact ⟨by decide, by decide +kernel⟩) (by rw [h.tot]; decide +kernel)]
 decide +kernel
theorem All.p2 {l : List Cl} {t : Rat} {ys : List Nat} {m : Nat} {rs : List Int} (h : All l) (hp : PartsOf 2 l t ys m rs) : rs = [1, 1, 0] := by
 have ht := hp.lev.uniq h.is2 h.valid.g
 subst ht
 rw [hp.told (zs := [0, 1, 2]) (k := 2) (h.ev _) (by rw [h.len]; exact ⟨by decide, by decide +kernel⟩) (by rw [h.tot]; decide +kernel)]
 decide +kernel
theorem Three.x2 {l : List Cl} {t : Rat} {xs : List Fr} (h : Three l) (ht : LevOf 50 l t) (hx : ExP l t xs) : ∃ y, xs[2]? = some y ∧ y.q = ((80 : Nat) : Rat) / ((3 : Nat) : Rat) := by
 have e := h.lev50 ht
 have h2 := hx.len
 rw [h.len] at h2
 have hy : xs[2]? = some xs[2] := List.getElem?_eq_getElem (by omega)
 refine ⟨_, hy, ?_⟩
 have h3 : (Go.Proofs.YtjbcalbbhomkjaaGreat.ev t l)[2]? = some xs[2].q := by rw [← hx.ev, List.getElem?_map, hy]; rfl
 rw [h.ev, e] at h3
 have h4 : min ((100 : Int) : Rat) (((40 : Nat) : Rat) / ((3 : Nat) : Rat) * ((2 : Nat) : Rat)) = xs[2].q := by simpa using h3
 rw [← h4]; decide +kernel
end Go.Proofs.YtjbcalbbhomkjaaGreat
namespace Go.Proofs.YtjbcalbbhomkjaaGreat
open Go.RowKit
attribute [local irreducible] RI.frame RI.act RI.Ob RI.Tail RI.out V.Wp V.Fn Oper.wp
theorem en13 : En 13 := en_ Tryz.func13
theorem en14 : En 14 := en_ Tryz.func14
theorem en21 : En 21 := en_ Tryz.func21
theorem en29 : En 29 := en_ Tryz.func29
theorem en35 : En 35 := en_ Tryz.func35
theorem en37 : En 37 := en_ Tryz.func37
theorem en38 : En 38 := en_ Tryz.func38
theorem en39 : En 39 := en_ Tryz.func39
theorem Level_n {A : Option Addr} {c n : Nat} {l : List Cl} {w : World} (hn : l.length = n) (hl : Ls w 6 A n c (l.map Cl.cells)) (hfr : ∀ x ∈ l, Fr.ok w x.w) (hV : ValidC l) (h20 : l.length < 20) {a : Int} (h0 : 0 ≤ a) (h1 : a ≤ 1099511627776) : Calls Tryz.prog 21 #[.int .i64 a, .slice A n c] w fun e w' => ∃ z : Fr, e = .returned (.tuple #[z.v, .int .i64 0]) ∧ Fr.ok w' z ∧ LevOf a l z.q ∧ Below w.heap.size w w' := by
  subst hn; exact Level_s hl hfr hV h20 h0 h1
theorem Exact_n {A : Option Addr} {c n : Nat} {l : List Cl} {w : World} (hn : l.length = n) (hl : Ls w 6 A n c (l.map Cl.cells)) (hfr : ∀ x ∈ l, Fr.ok w x.w) (hV : ValidC l) (h20 : l.length < 20) {a : Int} (h0 : 0 ≤ a) (h1 : a ≤ 1099511627776) : Calls Tryz.prog 14 #[.int .i64 a, .slice A n c] w fun e w' => ∃ (g : Nat) (xs : List Fr) (t : Rat), e = .returned (.tuple #[.slice (some ⟨g, 0, none⟩) n n, .int .i64 0]) ∧ LevOf a l t ∧ ExP l t xs ∧ Own w' g 39 4 (xs.map Fr.cells) [] ∧ (∀ x ∈ xs, Fr.ok w' x) ∧ w.heap.size ≤ g ∧ Below w.heap.size w w' := by
  subst hn; exact Exact_s hl hfr hV h20 h0 h1
theorem Parts_n {A : Option Addr} {c n : Nat} {l : List Cl} {w : World} (hn : l.length = n) (hl : Ls w 6 A n c (l.map Cl.cells)) (hfr : ∀ x ∈ l, Fr.ok w x.w) (hV : ValidC l) (h20 : l.length ≤ 10) {a : Int} (h0 : 0 ≤ a) (h1 : a ≤ 1099511627776) : Calls Tryz.prog 13 #[.int .i64 a, .slice A n c] w fun e w' => ∃ (g : Nat) (t : Rat) (ys : List Nat) (m : Nat) (rs : List Int), e = .returned (.tuple #[.slice (some ⟨g, 0, none⟩) n n, .int .i64 0]) ∧ PartsOf a l t ys m rs ∧ Own w' g 3 1 (rs.map IntC) [] ∧ w.heap.size ≤ g ∧ Below w.heap.size w w' := by
  subst hn
  refine Calls.mono (Parts_s hl hfr hV h20 h0 h1) ?_
  rintro e w' ⟨g, xs, t, ps, os, ys, rfl, h1, h2, h4, h5, h6, h7, h8, hb⟩
  exact ⟨g, t, ys, _, _, rfl, parts_of hV.g h0 h1 h2 h4 h5 h6, h7, h8, hb⟩
theorem aw_lev50 {A : Option Addr} {c : Nat} {l : List Cl} {w : World} (hl : Ls w 6 A 3 c (l.map Cl.cells)) (hfr : ∀ x ∈ l, Fr.ok w x.w) (h3 : Three l) : Calls Tryz.prog 21 #[.int .i64 50, .slice A 3 c] w fun e w' => ∃ z : Fr, e = .returned (.tuple #[z.v, .int .i64 0]) ∧ Fr.ok w' z ∧ z.q = ((40 : Nat) : Rat) / ((3 : Nat) : Rat) ∧ Below w.heap.size w w' := by
  refine Calls.mono (Level_n h3.len hl hfr h3.valid (by have := h3.len; omega) (by decide) (by decide)) ?_
  rintro e w' ⟨z, rfl, h1, h2, hb⟩
  exact ⟨z, rfl, h1, h3.lev50 h2, hb⟩
theorem aw_lev500 {A : Option Addr} {c : Nat} {l : List Cl} {w : World} (hl : Ls w 6 A 3 c (l.map Cl.cells)) (hfr : ∀ x ∈ l, Fr.ok w x.w) (h3 : Three l) : Calls Tryz.prog 21 #[.int .i64 500, .slice A 3 c] w fun e w' => ∃ z : Fr, e = .returned (.tuple #[z.v, .int .i64 0]) ∧ Fr.ok w' z ∧ z.q = ((100 : Nat) : Rat) ∧ Below w.heap.size w w' := by
  refine Calls.mono (Level_n h3.len hl hfr h3.valid (by have := h3.len; omega) (by decide) (by decide)) ?_
  rintro e w' ⟨z, rfl, h1, h2, hb⟩
  exact ⟨z, rfl, h1, h3.lev500 h2, hb⟩
theorem aw_lev7 {w : World} : Calls Tryz.prog 21 #[.int .i64 7, .slice none 0 0] w fun e w' => ∃ z : Fr, e = .returned (.tuple #[z.v, .int .i64 0]) ∧ Fr.ok w' z ∧ z.q = 0 ∧ Below w.heap.size w w' := by
  have hV : ValidC [] := ⟨by decide, fun x hx => (by cases hx), fun j a b h => (by cases h)⟩
  refine Calls.mono (Level_s (l := []) (Ls.nil (by decide)) (fun x hx => by cases hx) hV (by decide) (by decide) (by decide)) ?_
  rintro e w' ⟨z, rfl, h1, h2, hb⟩
  exact ⟨z, rfl, h1, lev7 h2, hb⟩
theorem aw_ex50 {A : Option Addr} {c : Nat} {l : List Cl} {w : World} (hl : Ls w 6 A 3 c (l.map Cl.cells)) (hfr : ∀ x ∈ l, Fr.ok w x.w) (h3 : Three l) : Calls Tryz.prog 14 #[.int .i64 50, .slice A 3 c] w fun e w' => ∃ (g : Nat) (xs : List Fr) (y : Fr), e = .returned (.tuple #[.slice (some ⟨g, 0, none⟩) 3 3, .int .i64 0]) ∧ xs.length = 3 ∧ xs[2]? = some y ∧ y.q = ((80 : Nat) : Rat) / ((3 : Nat) : Rat) ∧ Own w' g 39 4 (xs.map Fr.cells) [] ∧ Fr.ok w' y ∧ w.heap.size ≤ g ∧ Below w.heap.size w w' := by
  refine Calls.mono (Exact_n h3.len hl hfr h3.valid (by have := h3.len; omega) (by decide) (by decide)) ?_
  rintro e w' ⟨g, xs, t, rfl, h1, h2, h4, h5, h6, hb⟩
  obtain ⟨y, hy, hq⟩ := h3.x2 h1 h2
  exact ⟨g, xs, y, rfl, h2.len.trans h3.len, hy, hq, h4, h5 y (List.mem_of_getElem? hy), h6, hb⟩
theorem aw_p50 {A : Option Addr} {c : Nat} {l : List Cl} {w : World} (hl : Ls w 6 A 3 c (l.map Cl.cells)) (hfr : ∀ x ∈ l, Fr.ok w x.w) (h3 : Three l) : Calls Tryz.prog 13 #[.int .i64 50, .slice A 3 c] w fun e w' => ∃ g : Nat, e = .returned (.tuple #[.slice (some ⟨g, 0, none⟩) 3 3, .int .i64 0]) ∧ Own w' g 3 1 ([13, 10, 27].map IntC) [] ∧ w.heap.size ≤ g ∧ Below w.heap.size w w' := by
  refine Calls.mono (Parts_n h3.len hl hfr h3.valid (by have := h3.len; omega) (by decide) (by decide)) ?_
  rintro e w' ⟨g, t, ys, m, rs, rfl, hp, h7, h8, hb⟩
  rw [h3.p50 hp] at h7
  exact ⟨g, rfl, h7, h8, hb⟩
theorem aw_p500 {A : Option Addr} {c : Nat} {l : List Cl} {w : World} (hl : Ls w 6 A 3 c (l.map Cl.cells)) (hfr : ∀ x ∈ l, Fr.ok w x.w) (h3 : Three l) : Calls Tryz.prog 13 #[.int .i64 500, .slice A 3 c] w fun e w' => ∃ g : Nat, e = .returned (.tuple #[.slice (some ⟨g, 0, none⟩) 3 3, .int .i64 0]) ∧ Own w' g 3 1 ([100, 10, 100].map IntC) [] ∧ w.heap.size ≤ g ∧ Below w.heap.size w w' := by
  refine Calls.mono (Parts_n h3.len hl hfr h3.valid (by have := h3.len; omega) (by decide) (by decide)) ?_
  rintro e w' ⟨g, t, ys, m, rs, rfl, hp, h7, h8, hb⟩
  rw [h3.p500 hp] at h7
  exact ⟨g, rfl, h7, h8, hb⟩
theorem aw_p2 {A : Option Addr} {c : Nat} {l : List Cl} {w : World} (hl : Ls w 6 A 3 c (l.map Cl.cells)) (hfr : ∀ x ∈ l, Fr.ok w x.w) (h3 : All l) : Calls Tryz.prog 13 #[.int .i64 2, .slice A 3 c] w fun e w' => ∃ g : Nat, e = .returned (.tuple #[.slice (some ⟨g, 0, none⟩) 3 3, .int .i64 0]) ∧ Own w' g 3 1 ([1, 1, 0].map IntC) [] ∧ w.heap.size ≤ g ∧ Below w.heap.size w w' := by
  refine Calls.mono (Parts_n h3.len hl hfr h3.valid (by have := h3.len; omega) (by decide) (by decide)) ?_
  rintro e w' ⟨g, t, ys, m, rs, rfl, hp, h7, h8, hb⟩
  rw [h3.p2 hp] at h7
  exact ⟨g, rfl, h7, h8, hb⟩
theorem three_a {w : World} : Calls Tryz.prog 35 #[] w fun e w' => ∃ (g : Nat) (l : List Cl), e = .returned (.slice (some ⟨g, 0, none⟩) 3 3) ∧ Ls w' 6 (some ⟨g, 0, none⟩) 3 3 (l.map Cl.cells) ∧ (∀ x ∈ l, Fr.ok w' x.w) ∧ Three l ∧ Below w.heap.size w w' := by
  refine Calls.mono three_s ?_
  rintro e w' ⟨g, l, rfl, h1, h2, h3, hb⟩
  rw [List.length_map, h3.len] at h1
  exact ⟨g, l, rfl, h1, h2, h3, hb⟩
theorem Blk.ls3 {W : World} {g : Nat} {a b c : Int} (h : Blk W g 3 #[.int .i64 a, .int .i64 b, .int .i64 c]) : Ls W 1 (some ⟨g, 0, none⟩) 3 3 ([a, b, c].map IntC) := by
  have ho : Own W g 3 1 ([a, b, c].map IntC) [] := ⟨h, by simp⟩
  exact ho.ls (by simp) (by simp)
theorem awake_s {w : World} : Calls Tryz.prog 11 #[] w fun e w' => e = .returned (.bool true) ∧ Below w.heap.size w w' := by
 refine V.nt Tryz.func11 rfl rfl fun f0 hf => ?_
 clear hf
 have hb := Below.refl w.heap.size w
 refine V.seq ?_
 refine V.reg 1 [V.E (.bool false)] [] hb ?_ ?_
 ·refine V.ac ?_ V.an
  ·exact V.z1 rfl fun h => V.xs rfl
 intro f1 W2 e3
 clear hb
 obtain ⟨hb, z_⟩ := e3.g
 have s0 := V.es e3 0 0 rfl
 clear e3 z_
 refine V.t_done rfl (V.nx (V.seq ?_))
 refine V.reg 6 [(fun v W => ∃ g4 : Nat, ∃ l5 : List Cl, v = .slice (some ⟨g4, 0, none⟩) 3 3 ∧ Ls W 6 (some ⟨g4, 0, none⟩) 3 3 (l5.map Cl.cells) ∧ (∀ x ∈ l5, Fr.ok W x.w) ∧ (Three l5)), (fun v W => ∃ z9 : Fr, v = .tuple #[z9.v, .int .i64 0] ∧ Fr.ok W z9 ∧ (z9.q = ((40 : Nat) : Rat) / ((3 : Nat) : Rat))), (fun v W => ∃ z12 : Fr, v = .tuple #[z12.v, .int .i64 0] ∧ Fr.ok W z12 ∧ (z12.q = ((40 : Nat) : Rat) / ((3 : Nat) : Rat))), (fun v W => ∃ z13 : Fr, v = z13.v ∧ Fr.ok W z13 ∧ (z13.q = ((40 : Nat) : Rat) / ((3 : Nat) : Rat))), V.E (.int .i64 0), V.Nb W2 39 #[.bool false, .slice none 0 0, .bool false, .slice none 0 0]] [5] hb ?_ ?_
 ·refine V.a6 ?_ ?_ ?_ ?_ ?_ ?_
  ·refine V.s2 rfl fun f W h => ?_
   refine V.call en35 (V.args0 ) (Calls.mono (three_a) ?_)
   rintro e W' ⟨g4, l5, rfl, k6, k7, k8, hb⟩
   exact ⟨_, rfl, ⟨g4, l5, rfl, k6, k7, k8⟩, hb⟩
  ·refine V.s2 rfl fun f W h => ?_
   obtain ⟨g4, l5, a17, k0_0, k0_1, p0_0⟩ := V.dp h 0 17 (by kernel_rfl) rfl
   refine V.call en21 (V.args2 rfl (V.ev_tmp rfl a17)) (Calls.mono (aw_lev50 k0_0 k0_1 p0_0) ?_)
   rintro e W' ⟨z9, rfl, k10, e11, hb⟩
   exact ⟨_, rfl, ⟨z9, rfl, k10, e11⟩, hb⟩
  ·refine V.s2 rfl fun f W h => ?_
   obtain ⟨z9, a18, k1_0, p1_0⟩ := V.dp h 1 18 (by kernel_rfl) rfl
   exact V.v2 (.tuple #[z9.v, .int .i64 0]) (V.xm (V.ev_tmp rfl a18)) ⟨z9, rfl, k1_0, p1_0⟩
  ·refine V.s2 rfl fun f W h => ?_
   obtain ⟨z12, a16, k2_0, p2_0⟩ := V.dp h 2 16 (by kernel_rfl) rfl
   exact V.v2 (z12.v) (V.xe (V.ev_tmp rfl a16)) ⟨z12, rfl, k2_0, p2_0⟩
  ·refine V.s1 rfl fun f W h => ?_
   obtain ⟨z12, a16, k2_0, p2_0⟩ := V.dp h 2 16 (by kernel_rfl) rfl
   exact V.xe (V.ev_tmp rfl a16)
  ·exact V.sn rfl fun f W h => V.x_alloc
 have o_bel := hb.size
 intro f15 W16 e17
 clear hb
 obtain ⟨hb, z_⟩ := e17.g
 replace s0 := V.e1 e17 s0
 obtain ⟨z13, s19, r18, n19⟩ := V.eq e17 3 19 rfl
 have s20 := V.es e17 4 20 rfl
 obtain ⟨g14, s1, bg14, lg14⟩ := V.eq e17 5 1 rfl
 have mg14 := Nat.le_trans o_bel lg14
 clear e17 z_
 clear o_bel
 refine V.tsr (k := 6) rfl s1 s19 bg14 fun W20 hs b' => ?_
 replace hb := hs.bel hb mg14
 replace r18 := hs.fr r18
 replace bg14 := b'
 clear hs b'
 refine V.t_val (k := 7) (v := .int .i64 0) (t := 2) rfl rfl rfl (by kernel_rfl) trivial (V.xs (V.ev_tmp rfl s20)) ?_
 intro f21 e22 u23
 replace s0 : f21 0 = .bool false := (u23 0 (by decide)).trans s0
 replace s19 : f21 19 = z13.v := (u23 19 (by decide)).trans s19
 replace s20 : f21 20 = .int .i64 0 := (u23 20 (by decide)).trans s20
 replace s1 : f21 1 = Vp g14 0 := (u23 1 (by decide)).trans s1
 have s2 := e22
 clear u23
 refine V.t_done rfl (V.nx (V.seq ?_))
 refine V.reg 7 [(fun v W => ∃ g24 : Nat, ∃ l25 : List Cl, v = .slice (some ⟨g24, 0, none⟩) 3 3 ∧ Ls W 6 (some ⟨g24, 0, none⟩) 3 3 (l25.map Cl.cells) ∧ (∀ x ∈ l25, Fr.ok W x.w) ∧ (Three l25)), (fun v W => ∃ g29 : Nat, ∃ xs30 : List Fr, ∃ y31 : Fr, v = .tuple #[.slice (some ⟨g29, 0, none⟩) 3 3, .int .i64 0] ∧ Own W g29 39 4 (xs30.map Fr.cells) ([]) ∧ Fr.ok W y31 ∧ (xs30.length = 3) ∧ (xs30[2]? = some y31) ∧ (y31.q = ((80 : Nat) : Rat) / ((3 : Nat) : Rat)) ∧ (w.heap.size ≤ g29) ∧ (W20.heap.size ≤ g29)), (fun v W => ∃ g38 : Nat, ∃ xs39 : List Fr, ∃ y40 : Fr, v = .tuple #[.slice (some ⟨g38, 0, none⟩) 3 3, .int .i64 0] ∧ Own W g38 39 4 (xs39.map Fr.cells) ([]) ∧ Fr.ok W y40 ∧ (xs39.length = 3) ∧ (xs39[2]? = some y40) ∧ (y40.q = ((80 : Nat) : Rat) / ((3 : Nat) : Rat)) ∧ (w.heap.size ≤ g38) ∧ (W20.heap.size ≤ g38)), (fun v W => ∃ g41 : Nat, ∃ xs42 : List Fr, ∃ y43 : Fr, v = .slice (some ⟨g41, 0, none⟩) 3 3 ∧ Own W g41 39 4 (xs42.map Fr.cells) ([]) ∧ Fr.ok W y43 ∧ (xs42.length = 3) ∧ (xs42[2]? = some y43) ∧ (y43.q = ((80 : Nat) : Rat) / ((3 : Nat) : Rat)) ∧ (w.heap.size ≤ g41) ∧ (W20.heap.size ≤ g41)), V.E (.int .i64 0), (fun v W => ∃ g44 : Nat, ∃ xs45 : List Fr, ∃ y46 : Fr, v = .slice (some ⟨g44, 0, none⟩) 3 3 ∧ Own W g44 39 4 (xs45.map Fr.cells) ([]) ∧ Fr.ok W y46 ∧ (xs45.length = 3) ∧ (xs45[2]? = some y46) ∧ (y46.q = ((80 : Nat) : Rat) / ((3 : Nat) : Rat)) ∧ (w.heap.size ≤ g44) ∧ (W20.heap.size ≤ g44)), V.E (.int .i64 0)] [] (V.i hb (V.i r18 bg14)) ?_ ?_
 ·refine V.a7 ?_ ?_ ?_ ?_ ?_ ?_ ?_
  ·refine V.s2 rfl fun f W h => ?_
   refine V.call en35 (V.args0 ) (Calls.mono (three_a) ?_)
   rintro e W' ⟨g24, l25, rfl, k26, k27, k28, hb⟩
   exact ⟨_, rfl, ⟨g24, l25, rfl, k26, k27, k28⟩, hb⟩
  ·refine V.s2 rfl fun f W h => ?_
   obtain ⟨g24, l25, a22, k0_0, k0_1, p0_0⟩ := V.dp h 0 22 (by kernel_rfl) rfl
   refine V.call en14 (V.args2 rfl (V.ev_tmp rfl a22)) (Calls.mono (aw_ex50 k0_0 k0_1 p0_0) ?_)
   rintro e W' ⟨g29, xs30, y31, rfl, p32, p33, p34, p35, p36, p37, hb⟩
   exact ⟨_, rfl, ⟨g29, xs30, y31, rfl, p35, p36, p32, p33, p34, Nat.le_trans h.g.1.1.size p37, Nat.le_trans h.g.2 p37⟩, hb⟩
  ·refine V.s2 rfl fun f W h => ?_
   obtain ⟨g29, xs30, y31, a23, k1_0, k1_1, p1_0, p1_1, p1_2, p1_3, p1_4⟩ := V.dp h 1 23 (by kernel_rfl) rfl
   exact V.v2 (.tuple #[.slice (some ⟨g29, 0, none⟩) 3 3, .int .i64 0]) (V.xm (V.ev_tmp rfl a23)) ⟨g29, xs30, y31, rfl, k1_0, k1_1, p1_0, p1_1, p1_2, p1_3, p1_4⟩
  ·refine V.s2 rfl fun f W h => ?_
   obtain ⟨g38, xs39, y40, a21, k2_0, k2_1, p2_0, p2_1, p2_2, p2_3, p2_4⟩ := V.dp h 2 21 (by kernel_rfl) rfl
   exact V.v2 (.slice (some ⟨g38, 0, none⟩) 3 3) (V.xe (V.ev_tmp rfl a21)) ⟨g38, xs39, y40, rfl, k2_0, k2_1, p2_0, p2_1, p2_2, p2_3, p2_4⟩
  ·refine V.s1 rfl fun f W h => ?_
   obtain ⟨g38, xs39, y40, a21, k2_0, k2_1, p2_0, p2_1, p2_2, p2_3, p2_4⟩ := V.dp h 2 21 (by kernel_rfl) rfl
   exact V.xe (V.ev_tmp rfl a21)
  ·refine V.s2 rfl fun f W h => ?_
   obtain ⟨g41, xs42, y43, a24, k3_0, k3_1, p3_0, p3_1, p3_2, p3_3, p3_4⟩ := V.dp h 3 24 (by kernel_rfl) rfl
   exact V.v2 (.slice (some ⟨g41, 0, none⟩) 3 3) (V.xs (V.ev_tmp rfl a24)) ⟨g41, xs42, y43, rfl, k3_0, k3_1, p3_0, p3_1, p3_2, p3_3, p3_4⟩
  ·exact V.se rfl 4 25 rfl
 have o_g14 := bg14.lt
 intro f47 W48 e49
 clear hb r18 bg14
 obtain ⟨⟨hb, r18, bg14⟩, z_⟩ := e49.g
 obtain ⟨s0, s1, s2⟩ := V.e3 e49 s0 s1 s2
 obtain ⟨g44, xs45, y46, s3, r50, r51, n52, n53, n54, n55, n56⟩ := V.eq e49 5 3 rfl
 have s4 := V.es e49 6 4 rfl
 clear e49 z_
 clear o_g14
 refine V.t_done rfl (V.nx (V.seq ?_))
 refine V.reg 7 [(fun v W => ∃ g58 : Nat, ∃ l59 : List Cl, v = .slice (some ⟨g58, 0, none⟩) 3 3 ∧ Ls W 6 (some ⟨g58, 0, none⟩) 3 3 (l59.map Cl.cells) ∧ (∀ x ∈ l59, Fr.ok W x.w) ∧ (Three l59)), (fun v W => ∃ g63 : Nat, v = .tuple #[.slice (some ⟨g63, 0, none⟩) 3 3, .int .i64 0] ∧ Own W g63 3 1 ([13, 10, 27].map IntC) ([]) ∧ (w.heap.size ≤ g63) ∧ (W48.heap.size ≤ g63)), (fun v W => ∃ g66 : Nat, v = .tuple #[.slice (some ⟨g66, 0, none⟩) 3 3, .int .i64 0] ∧ Own W g66 3 1 ([13, 10, 27].map IntC) ([]) ∧ (w.heap.size ≤ g66) ∧ (W48.heap.size ≤ g66)), (fun v W => ∃ g67 : Nat, v = .slice (some ⟨g67, 0, none⟩) 3 3 ∧ Own W g67 3 1 ([13, 10, 27].map IntC) ([]) ∧ (w.heap.size ≤ g67) ∧ (W48.heap.size ≤ g67)), V.E (.int .i64 0), (fun v W => ∃ g68 : Nat, v = .slice (some ⟨g68, 0, none⟩) 3 3 ∧ Own W g68 3 1 ([13, 10, 27].map IntC) ([]) ∧ (w.heap.size ≤ g68) ∧ (W48.heap.size ≤ g68)), V.E (.int .i64 0)] [] (V.i hb (V.i r18 (V.i bg14 (V.i r50 r51)))) ?_ ?_
 ·refine V.a7 ?_ ?_ ?_ ?_ ?_ ?_ ?_
  ·refine V.s2 rfl fun f W h => ?_
   refine V.call en35 (V.args0 ) (Calls.mono (three_a) ?_)
   rintro e W' ⟨g58, l59, rfl, k60, k61, k62, hb⟩
   exact ⟨_, rfl, ⟨g58, l59, rfl, k60, k61, k62⟩, hb⟩
  ·refine V.s2 rfl fun f W h => ?_
   obtain ⟨g58, l59, a27, k0_0, k0_1, p0_0⟩ := V.dp h 0 27 (by kernel_rfl) rfl
   refine V.call en13 (V.args2 rfl (V.ev_tmp rfl a27)) (Calls.mono (aw_p50 k0_0 k0_1 p0_0) ?_)
   rintro e W' ⟨g63, rfl, p64, p65, hb⟩
   exact ⟨_, rfl, ⟨g63, rfl, p64, Nat.le_trans h.g.1.1.size p65, Nat.le_trans h.g.2 p65⟩, hb⟩
  ·refine V.s2 rfl fun f W h => ?_
   obtain ⟨g63, a28, k1_0, p1_0, p1_1⟩ := V.dp h 1 28 (by kernel_rfl) rfl
   exact V.v2 (.tuple #[.slice (some ⟨g63, 0, none⟩) 3 3, .int .i64 0]) (V.xm (V.ev_tmp rfl a28)) ⟨g63, rfl, k1_0, p1_0, p1_1⟩
  ·refine V.s2 rfl fun f W h => ?_
   obtain ⟨g66, a26, k2_0, p2_0, p2_1⟩ := V.dp h 2 26 (by kernel_rfl) rfl
   exact V.v2 (.slice (some ⟨g66, 0, none⟩) 3 3) (V.xe (V.ev_tmp rfl a26)) ⟨g66, rfl, k2_0, p2_0, p2_1⟩
  ·refine V.s1 rfl fun f W h => ?_
   obtain ⟨g66, a26, k2_0, p2_0, p2_1⟩ := V.dp h 2 26 (by kernel_rfl) rfl
   exact V.xe (V.ev_tmp rfl a26)
  ·refine V.s2 rfl fun f W h => ?_
   obtain ⟨g67, a29, k3_0, p3_0, p3_1⟩ := V.dp h 3 29 (by kernel_rfl) rfl
   exact V.v2 (.slice (some ⟨g67, 0, none⟩) 3 3) (V.xs (V.ev_tmp rfl a29)) ⟨g67, rfl, k3_0, p3_0, p3_1⟩
  ·exact V.se rfl 4 30 rfl
 have o_g14 := bg14.lt
 have o_g44 := r50.blk.lt
 intro f69 W70 e71
 clear hb r18 bg14 r50 r51
 obtain ⟨⟨hb, r18, bg14, r50, r51⟩, z_⟩ := e71.g
 obtain ⟨s0, s1, s2, s3, s4⟩ := V.e5 e71 s0 s1 s2 s3 s4
 obtain ⟨g68, s5, r72, n73, n74⟩ := V.eq e71 5 5 rfl
 have s6 := V.es e71 6 6 rfl
 clear e71 z_
 clear o_g14 o_g44
 refine V.t_done rfl (V.nx (V.seq ?_))
 refine V.reg 8 [(fun v W => ∃ z77 : Fr, v = z77.v ∧ Fr.ok W z77 ∧ (z77.q = ((1 : Nat) : Rat))), (fun v W => ∃ z80 : Fr, v = .agg #[.int .i64 1, .bool (Q.neg z80.q), Vs z80.A (Q.m z80.q) z80.c, .bool false, Vs z80.A' z80.q.den z80.c', .int .i64 9] ∧ Fr.ok W z80 ∧ (z80.q = ((1 : Nat) : Rat))), (fun v W => ∃ z81 : Fr, v = z81.v ∧ Fr.ok W z81 ∧ (z81.q = ((1 : Nat) : Rat))), (fun v W => ∃ z84 : Fr, v = .agg #[.int .i64 2, .bool (Q.neg z84.q), Vs z84.A (Q.m z84.q) z84.c, .bool false, Vs z84.A' z84.q.den z84.c', .int .i64 9] ∧ Fr.ok W z84 ∧ (z84.q = ((1 : Nat) : Rat))), (fun v W => ∃ z85 : Fr, v = z85.v ∧ Fr.ok W z85 ∧ (z85.q = ((1 : Nat) : Rat))), (fun v W => ∃ z88 : Fr, v = .agg #[.int .i64 3, .bool (Q.neg z88.q), Vs z88.A (Q.m z88.q) z88.c, .bool false, Vs z88.A' z88.q.den z88.c', .int .i64 9] ∧ Fr.ok W z88 ∧ (z88.q = ((1 : Nat) : Rat))), (fun v W => ∃ g90 : Nat, ∃ z91 : Fr, ∃ z92 : Fr, ∃ z93 : Fr, v = .slice (some ⟨g90, 0, none⟩) 3 3 ∧ Blk W g90 50 #[.int .i64 1, .bool (Q.neg z91.q), Vs z91.A (Q.m z91.q) z91.c, .bool false, Vs z91.A' z91.q.den z91.c', .int .i64 9, .int .i64 2, .bool (Q.neg z92.q), Vs z92.A (Q.m z92.q) z92.c, .bool false, Vs z92.A' z92.q.den z92.c', .int .i64 9, .int .i64 3, .bool (Q.neg z93.q), Vs z93.A (Q.m z93.q) z93.c, .bool false, Vs z93.A' z93.q.den z93.c', .int .i64 9] ∧ Fr.ok W z91 ∧ Fr.ok W z92 ∧ Fr.ok W z93 ∧ (w.heap.size ≤ g90) ∧ (z91.q = ((1 : Nat) : Rat)) ∧ (z92.q = ((1 : Nat) : Rat)) ∧ (z93.q = ((1 : Nat) : Rat))), (fun v W => ∃ g94 : Nat, ∃ z95 : Fr, ∃ z96 : Fr, ∃ z97 : Fr, v = .slice (some ⟨g94, 0, none⟩) 3 3 ∧ Blk W g94 50 #[.int .i64 1, .bool (Q.neg z95.q), Vs z95.A (Q.m z95.q) z95.c, .bool false, Vs z95.A' z95.q.den z95.c', .int .i64 9, .int .i64 2, .bool (Q.neg z96.q), Vs z96.A (Q.m z96.q) z96.c, .bool false, Vs z96.A' z96.q.den z96.c', .int .i64 9, .int .i64 3, .bool (Q.neg z97.q), Vs z97.A (Q.m z97.q) z97.c, .bool false, Vs z97.A' z97.q.den z97.c', .int .i64 9] ∧ Fr.ok W z95 ∧ Fr.ok W z96 ∧ Fr.ok W z97 ∧ (w.heap.size ≤ g94) ∧ (z95.q = ((1 : Nat) : Rat)) ∧ (z96.q = ((1 : Nat) : Rat)) ∧ (z97.q = ((1 : Nat) : Rat)))] [] (V.i hb (V.i r18 (V.i bg14 (V.i r50 (V.i r51 r72))))) ?_ ?_
 ·refine V.a8 ?_ ?_ ?_ ?_ ?_ ?_ ?_ ?_
  ·refine V.s2 rfl fun f W h => ?_
   refine V.call en17 (V.args1 rfl) (Calls.mono (RFrom (vv := 1) (by decide)) ?_)
   rintro e W' ⟨z77, rfl, k78, e79, hb⟩
   exact ⟨_, rfl, ⟨z77, rfl, k78, e79⟩, hb⟩
  ·refine V.s2 rfl fun f W h => ?_
   obtain ⟨z77, a31, k0_0, p0_0⟩ := V.dp h 0 31 (by kernel_rfl) rfl
   exact V.v2 (.agg #[.int .i64 1, .bool (Q.neg z77.q), Vs z77.A (Q.m z77.q) z77.c, .bool false, Vs z77.A' z77.q.den z77.c', .int .i64 9]) (V.b3 rfl (V.ev_tmp rfl a31) rfl) ⟨z77, rfl, k0_0, p0_0⟩
  ·refine V.s2 rfl fun f W h => ?_
   refine V.call en17 (V.args1 rfl) (Calls.mono (RFrom (vv := 1) (by decide)) ?_)
   rintro e W' ⟨z81, rfl, k82, e83, hb⟩
   exact ⟨_, rfl, ⟨z81, rfl, k82, e83⟩, hb⟩
  ·refine V.s2 rfl fun f W h => ?_
   obtain ⟨z81, a33, k2_0, p2_0⟩ := V.dp h 2 33 (by kernel_rfl) rfl
   exact V.v2 (.agg #[.int .i64 2, .bool (Q.neg z81.q), Vs z81.A (Q.m z81.q) z81.c, .bool false, Vs z81.A' z81.q.den z81.c', .int .i64 9]) (V.b3 rfl (V.ev_tmp rfl a33) rfl) ⟨z81, rfl, k2_0, p2_0⟩
  ·refine V.s2 rfl fun f W h => ?_
   refine V.call en17 (V.args1 rfl) (Calls.mono (RFrom (vv := 1) (by decide)) ?_)
   rintro e W' ⟨z85, rfl, k86, e87, hb⟩
   exact ⟨_, rfl, ⟨z85, rfl, k86, e87⟩, hb⟩
  ·refine V.s2 rfl fun f W h => ?_
   obtain ⟨z85, a35, k4_0, p4_0⟩ := V.dp h 4 35 (by kernel_rfl) rfl
   exact V.v2 (.agg #[.int .i64 3, .bool (Q.neg z85.q), Vs z85.A (Q.m z85.q) z85.c, .bool false, Vs z85.A' z85.q.den z85.c', .int .i64 9]) (V.b3 rfl (V.ev_tmp rfl a35) rfl) ⟨z85, rfl, k4_0, p4_0⟩
  ·refine V.s2 rfl fun f W h => ?_
   obtain ⟨z80, a32, k1_0, p1_0⟩ := V.dp h 1 32 (by kernel_rfl) rfl
   obtain ⟨z84, a34, k3_0, p3_0⟩ := V.dp h 3 34 (by kernel_rfl) rfl
   obtain ⟨z88, a36, k5_0, p5_0⟩ := V.dp h 5 36 (by kernel_rfl) rfl
   exact V.valv (.slice (some ⟨W.heap.size, 0, none⟩) 3 3) (V.c3 (V.ev_tmp rfl a32) (V.ev_tmp rfl a34) (V.ev_tmp rfl a36)) ⟨⟨W.heap.size, z80, z84, z88, rfl, Blk.new W 50 #[.int .i64 1, .bool (Q.neg z80.q), Vs z80.A (Q.m z80.q) z80.c, .bool false, Vs z80.A' z80.q.den z80.c', .int .i64 9, .int .i64 2, .bool (Q.neg z84.q), Vs z84.A (Q.m z84.q) z84.c, .bool false, Vs z84.A' z84.q.den z84.c', .int .i64 9, .int .i64 3, .bool (Q.neg z88.q), Vs z88.A (Q.m z88.q) z88.c, .bool false, Vs z88.A' z88.q.den z88.c', .int .i64 9], (V.Stb.fr _ _ k1_0 ((Below.refl _ _).alloc (Nat.le_refl _) _)), (V.Stb.fr _ _ k3_0 ((Below.refl _ _).alloc (Nat.le_refl _) _)), (V.Stb.fr _ _ k5_0 ((Below.refl _ _).alloc (Nat.le_refl _) _)), h.g.1.1.size, p1_0, p3_0, p5_0⟩, (Below.refl _ _).alloc (Nat.le_refl _) _⟩
  ·refine V.s2 rfl fun f W h => ?_
   obtain ⟨g90, z91, z92, z93, a37, k6_0, k6_1, k6_2, k6_3, p6_0, p6_1, p6_2, p6_3⟩ := V.dp h 6 37 (by kernel_rfl) rfl
   exact V.v2 (.slice (some ⟨g90, 0, none⟩) 3 3) (V.xs (V.ev_tmp rfl a37)) ⟨g90, z91, z92, z93, rfl, k6_0, k6_1, k6_2, k6_3, p6_0, p6_1, p6_2, p6_3⟩
 intro f98 W99 e100
 clear hb r18 bg14 r50 r51 r72
 obtain ⟨⟨hb, r18, bg14, r50, r51, r72⟩, z_⟩ := e100.g
 obtain ⟨s0, s1, s2, s3, s4, s5, s6⟩ := V.e7 e100 s0 s1 s2 s3 s4 s5 s6
 obtain ⟨g94, z95, z96, z97, s7, r101, r102, r103, r104, n105, n106, n107, n108⟩ := V.eq e100 7 7 rfl
 clear e100 z_
 refine V.t_done rfl ?_
 obtain ⟨l4, hA4, hls4, hfr4⟩ : ∃ l : List Cl, All l ∧ Ls W99 6 (some ⟨g94, 0, none⟩) 3 3 (l.map Cl.cells) ∧ ∀ x ∈ l, Fr.ok W99 x.w := by
  have ho : Own W99 g94 50 6 (([⟨1, z95, 9⟩, ⟨2, z96, 9⟩, ⟨3, z97, 9⟩] : List Cl).map Cl.cells) [] := ⟨r101, by simp⟩
  exact ⟨_, ⟨_, _, _, rfl, n106, n107, n108⟩, ho.ls (by simp) (by simp), fun x hx => by simp at hx; rcases hx with rfl | rfl | rfl <;> assumption⟩
 refine V.nx (V.seq ?_)
 refine V.reg 7 [V.E (.slice (some ⟨g94, 0, none⟩) 3 3), (fun v W => ∃ g109 : Nat, v = .tuple #[.slice (some ⟨g109, 0, none⟩) 3 3, .int .i64 0] ∧ Own W g109 3 1 ([1, 1, 0].map IntC) ([]) ∧ (w.heap.size ≤ g109) ∧ (W99.heap.size ≤ g109)), (fun v W => ∃ g112 : Nat, v = .tuple #[.slice (some ⟨g112, 0, none⟩) 3 3, .int .i64 0] ∧ Own W g112 3 1 ([1, 1, 0].map IntC) ([]) ∧ (w.heap.size ≤ g112) ∧ (W99.heap.size ≤ g112)), (fun v W => ∃ g113 : Nat, v = .slice (some ⟨g113, 0, none⟩) 3 3 ∧ Own W g113 3 1 ([1, 1, 0].map IntC) ([]) ∧ (w.heap.size ≤ g113) ∧ (W99.heap.size ≤ g113)), V.E (.int .i64 0), (fun v W => ∃ g114 : Nat, v = .slice (some ⟨g114, 0, none⟩) 3 3 ∧ Own W g114 3 1 ([1, 1, 0].map IntC) ([]) ∧ (w.heap.size ≤ g114) ∧ (W99.heap.size ≤ g114)), V.E (.int .i64 0)] [] (V.i hb (V.i r18 (V.i bg14 (V.i r50 (V.i r51 (V.i r72 (V.i r101 (V.i r102 (V.i r103 (V.i r104 (V.i hls4 hfr4))))))))))) ?_ ?_
 ·refine V.a7 ?_ ?_ ?_ ?_ ?_ ?_ ?_
  ·exact V.mo rfl 7 s7
  ·refine V.s2 rfl fun f W h => ?_
   refine V.call en13 (V.args2 rfl (V.ed h 0 39 rfl)) (Calls.mono (aw_p2 h.g.1.2.2.2.2.2.2.2.2.2.2.1 h.g.1.2.2.2.2.2.2.2.2.2.2.2 hA4) ?_)
   rintro e W' ⟨g109, rfl, p110, p111, hb⟩
   exact ⟨_, rfl, ⟨g109, rfl, p110, Nat.le_trans h.g.1.1.size p111, Nat.le_trans h.g.2 p111⟩, hb⟩
  ·refine V.s2 rfl fun f W h => ?_
   obtain ⟨g109, a40, k1_0, p1_0, p1_1⟩ := V.dp h 1 40 (by kernel_rfl) rfl
   exact V.v2 (.tuple #[.slice (some ⟨g109, 0, none⟩) 3 3, .int .i64 0]) (V.xm (V.ev_tmp rfl a40)) ⟨g109, rfl, k1_0, p1_0, p1_1⟩
  ·refine V.s2 rfl fun f W h => ?_
   obtain ⟨g112, a38, k2_0, p2_0, p2_1⟩ := V.dp h 2 38 (by kernel_rfl) rfl
   exact V.v2 (.slice (some ⟨g112, 0, none⟩) 3 3) (V.xe (V.ev_tmp rfl a38)) ⟨g112, rfl, k2_0, p2_0, p2_1⟩
  ·refine V.s1 rfl fun f W h => ?_
   obtain ⟨g112, a38, k2_0, p2_0, p2_1⟩ := V.dp h 2 38 (by kernel_rfl) rfl
   exact V.xe (V.ev_tmp rfl a38)
  ·refine V.s2 rfl fun f W h => ?_
   obtain ⟨g113, a41, k3_0, p3_0, p3_1⟩ := V.dp h 3 41 (by kernel_rfl) rfl
   exact V.v2 (.slice (some ⟨g113, 0, none⟩) 3 3) (V.xs (V.ev_tmp rfl a41)) ⟨g113, rfl, k3_0, p3_0, p3_1⟩
  ·exact V.se rfl 4 42 rfl
 have o_g14 := bg14.lt
 have o_g44 := r50.blk.lt
 have o_g68 := r72.blk.lt
 intro f115 W116 e117
 clear hb r18 bg14 r50 r51 r72 r101 r102 r103 r104 hls4 hfr4
 obtain ⟨⟨hb, r18, bg14, r50, r51, r72, r101, r102, r103, r104, hls4, hfr4⟩, z_⟩ := e117.g
 obtain ⟨s0, s1, s2, s3, s4, s5, s6⟩ := V.e7 e117 s0 s1 s2 s3 s4 s5 s6
 obtain ⟨g114, s8, r118, n119, n120⟩ := V.eq e117 5 8 rfl
 have s9 := V.es e117 6 9 rfl
 clear e117 z_
 clear o_g14 o_g44 o_g68
 refine V.t_done rfl ?_
 clear r101
 clear hls4
 clear hfr4
 refine V.nx (V.seq ?_)
 clear r102 r103 r104
 refine V.reg 7 [(fun v W => ∃ g124 : Nat, ∃ l125 : List Cl, v = .slice (some ⟨g124, 0, none⟩) 3 3 ∧ Ls W 6 (some ⟨g124, 0, none⟩) 3 3 (l125.map Cl.cells) ∧ (∀ x ∈ l125, Fr.ok W x.w) ∧ (Three l125)), (fun v W => ∃ g129 : Nat, v = .tuple #[.slice (some ⟨g129, 0, none⟩) 3 3, .int .i64 0] ∧ Own W g129 3 1 ([100, 10, 100].map IntC) ([]) ∧ (w.heap.size ≤ g129) ∧ (W116.heap.size ≤ g129)), (fun v W => ∃ g132 : Nat, v = .tuple #[.slice (some ⟨g132, 0, none⟩) 3 3, .int .i64 0] ∧ Own W g132 3 1 ([100, 10, 100].map IntC) ([]) ∧ (w.heap.size ≤ g132) ∧ (W116.heap.size ≤ g132)), (fun v W => ∃ g133 : Nat, v = .slice (some ⟨g133, 0, none⟩) 3 3 ∧ Own W g133 3 1 ([100, 10, 100].map IntC) ([]) ∧ (w.heap.size ≤ g133) ∧ (W116.heap.size ≤ g133)), V.E (.int .i64 0), (fun v W => ∃ g134 : Nat, v = .slice (some ⟨g134, 0, none⟩) 3 3 ∧ Own W g134 3 1 ([100, 10, 100].map IntC) ([]) ∧ (w.heap.size ≤ g134) ∧ (W116.heap.size ≤ g134)), V.E (.int .i64 0)] [] (V.i hb (V.i r18 (V.i bg14 (V.i r50 (V.i r51 (V.i r72 r118)))))) ?_ ?_
 ·refine V.a7 ?_ ?_ ?_ ?_ ?_ ?_ ?_
  ·refine V.s2 rfl fun f W h => ?_
   refine V.call en35 (V.args0 ) (Calls.mono (three_a) ?_)
   rintro e W' ⟨g124, l125, rfl, k126, k127, k128, hb⟩
   exact ⟨_, rfl, ⟨g124, l125, rfl, k126, k127, k128⟩, hb⟩
  ·refine V.s2 rfl fun f W h => ?_
   obtain ⟨g124, l125, a44, k0_0, k0_1, p0_0⟩ := V.dp h 0 44 (by kernel_rfl) rfl
   refine V.call en13 (V.args2 rfl (V.ev_tmp rfl a44)) (Calls.mono (aw_p500 k0_0 k0_1 p0_0) ?_)
   rintro e W' ⟨g129, rfl, p130, p131, hb⟩
   exact ⟨_, rfl, ⟨g129, rfl, p130, Nat.le_trans h.g.1.1.size p131, Nat.le_trans h.g.2 p131⟩, hb⟩
  ·refine V.s2 rfl fun f W h => ?_
   obtain ⟨g129, a45, k1_0, p1_0, p1_1⟩ := V.dp h 1 45 (by kernel_rfl) rfl
   exact V.v2 (.tuple #[.slice (some ⟨g129, 0, none⟩) 3 3, .int .i64 0]) (V.xm (V.ev_tmp rfl a45)) ⟨g129, rfl, k1_0, p1_0, p1_1⟩
  ·refine V.s2 rfl fun f W h => ?_
   obtain ⟨g132, a43, k2_0, p2_0, p2_1⟩ := V.dp h 2 43 (by kernel_rfl) rfl
   exact V.v2 (.slice (some ⟨g132, 0, none⟩) 3 3) (V.xe (V.ev_tmp rfl a43)) ⟨g132, rfl, k2_0, p2_0, p2_1⟩
  ·refine V.s1 rfl fun f W h => ?_
   obtain ⟨g132, a43, k2_0, p2_0, p2_1⟩ := V.dp h 2 43 (by kernel_rfl) rfl
   exact V.xe (V.ev_tmp rfl a43)
  ·refine V.s2 rfl fun f W h => ?_
   obtain ⟨g133, a46, k3_0, p3_0, p3_1⟩ := V.dp h 3 46 (by kernel_rfl) rfl
   exact V.v2 (.slice (some ⟨g133, 0, none⟩) 3 3) (V.xs (V.ev_tmp rfl a46)) ⟨g133, rfl, k3_0, p3_0, p3_1⟩
  ·exact V.se rfl 4 47 rfl
 have o_g14 := bg14.lt
 have o_g44 := r50.blk.lt
 have o_g68 := r72.blk.lt
 have o_g114 := r118.blk.lt
 intro f135 W136 e137
 clear hb r18 bg14 r50 r51 r72 r118
 obtain ⟨⟨hb, r18, bg14, r50, r51, r72, r118⟩, z_⟩ := e137.g
 obtain ⟨s0, s1, s2, s3, s4, s5, s6, s8, s9⟩ := V.e9 e137 s0 s1 s2 s3 s4 s5 s6 s8 s9
 obtain ⟨g134, s10, r138, n139, n140⟩ := V.eq e137 5 10 rfl
 have s11 := V.es e137 6 11 rfl
 clear e137 z_
 clear o_g14 o_g44 o_g68 o_g114
 refine V.t_done rfl (V.nx (V.seq ?_))
 refine V.reg 6 [(fun v W => ∃ g145 : Nat, ∃ l146 : List Cl, v = .slice (some ⟨g145, 0, none⟩) 3 3 ∧ Ls W 6 (some ⟨g145, 0, none⟩) 3 3 (l146.map Cl.cells) ∧ (∀ x ∈ l146, Fr.ok W x.w) ∧ (Three l146)), (fun v W => ∃ z150 : Fr, v = .tuple #[z150.v, .int .i64 0] ∧ Fr.ok W z150 ∧ (z150.q = ((100 : Nat) : Rat))), (fun v W => ∃ z153 : Fr, v = .tuple #[z153.v, .int .i64 0] ∧ Fr.ok W z153 ∧ (z153.q = ((100 : Nat) : Rat))), (fun v W => ∃ z154 : Fr, v = z154.v ∧ Fr.ok W z154 ∧ (z154.q = ((100 : Nat) : Rat))), V.E (.int .i64 0), V.Nb W136 39 #[.bool false, .slice none 0 0, .bool false, .slice none 0 0]] [5] (V.i hb (V.i r18 (V.i bg14 (V.i r50 (V.i r51 (V.i r72 (V.i r118 r138))))))) ?_ ?_
 ·refine V.a6 ?_ ?_ ?_ ?_ ?_ ?_
  ·refine V.s2 rfl fun f W h => ?_
   refine V.call en35 (V.args0 ) (Calls.mono (three_a) ?_)
   rintro e W' ⟨g145, l146, rfl, k147, k148, k149, hb⟩
   exact ⟨_, rfl, ⟨g145, l146, rfl, k147, k148, k149⟩, hb⟩
  ·refine V.s2 rfl fun f W h => ?_
   obtain ⟨g145, l146, a49, k0_0, k0_1, p0_0⟩ := V.dp h 0 49 (by kernel_rfl) rfl
   refine V.call en21 (V.args2 rfl (V.ev_tmp rfl a49)) (Calls.mono (aw_lev500 k0_0 k0_1 p0_0) ?_)
   rintro e W' ⟨z150, rfl, k151, e152, hb⟩
   exact ⟨_, rfl, ⟨z150, rfl, k151, e152⟩, hb⟩
  ·refine V.s2 rfl fun f W h => ?_
   obtain ⟨z150, a50, k1_0, p1_0⟩ := V.dp h 1 50 (by kernel_rfl) rfl
   exact V.v2 (.tuple #[z150.v, .int .i64 0]) (V.xm (V.ev_tmp rfl a50)) ⟨z150, rfl, k1_0, p1_0⟩
  ·refine V.s2 rfl fun f W h => ?_
   obtain ⟨z153, a48, k2_0, p2_0⟩ := V.dp h 2 48 (by kernel_rfl) rfl
   exact V.v2 (z153.v) (V.xe (V.ev_tmp rfl a48)) ⟨z153, rfl, k2_0, p2_0⟩
  ·refine V.s1 rfl fun f W h => ?_
   obtain ⟨z153, a48, k2_0, p2_0⟩ := V.dp h 2 48 (by kernel_rfl) rfl
   exact V.xe (V.ev_tmp rfl a48)
  ·exact V.sn rfl fun f W h => V.x_alloc
 have o_g14 := bg14.lt
 have o_g44 := r50.blk.lt
 have o_g68 := r72.blk.lt
 have o_g114 := r118.blk.lt
 have o_g134 := r138.blk.lt
 have o_bel := hb.size
 intro f156 W157 e158
 clear hb r18 bg14 r50 r51 r72 r118 r138
 obtain ⟨⟨hb, r18, bg14, r50, r51, r72, r118, r138⟩, z_⟩ := e158.g
 obtain ⟨s0, s1, s2, s3, s4, s5, s6, s8, s9⟩ := V.e9 e158 s0 s1 s2 s3 s4 s5 s6 s8 s9
 obtain ⟨s10, s11⟩ := V.e2 e158 s10 s11
 obtain ⟨z154, s51, r159, n160⟩ := V.eq e158 3 51 rfl
 have s52 := V.es e158 4 52 rfl
 obtain ⟨g155, s12, bg155, lg155⟩ := V.eq e158 5 12 rfl
 have mg155 := Nat.le_trans o_bel lg155
 have q14_155 : g14 ≠ g155 := by omega
 have q44_155 : g44 ≠ g155 := by omega
 have q68_155 : g68 ≠ g155 := by omega
 have q114_155 : g114 ≠ g155 := by omega
 have q134_155 : g134 ≠ g155 := by omega
 clear e158 z_
 clear o_bel o_g14 o_g44 o_g68 o_g114 o_g134
 refine V.tsr (k := 6) rfl s12 s51 bg155 fun W161 hs b' => ?_
 replace hb := hs.bel hb mg155
 replace r18 := hs.fr r18
 replace bg14 := hs.blk bg14 q14_155
 replace r50 := hs.own r50 q44_155
 replace r51 := hs.fr r51
 replace r72 := hs.own r72 q68_155
 replace r118 := hs.own r118 q114_155
 replace r138 := hs.own r138 q134_155
 replace r159 := hs.fr r159
 replace bg155 := b'
 clear hs b'
 refine V.t_val (k := 7) (v := .int .i64 0) (t := 13) rfl rfl rfl (by kernel_rfl) trivial (V.xs (V.ev_tmp rfl s52)) ?_
 intro f162 e163 u164
 replace s0 : f162 0 = .bool false := (u164 0 (by decide)).trans s0
 replace s1 : f162 1 = Vp g14 0 := (u164 1 (by decide)).trans s1
 replace s2 : f162 2 = .int .i64 0 := (u164 2 (by decide)).trans s2
 replace s3 : f162 3 = .slice (some ⟨g44, 0, none⟩) 3 3 := (u164 3 (by decide)).trans s3
 replace s4 : f162 4 = .int .i64 0 := (u164 4 (by decide)).trans s4
 replace s5 : f162 5 = .slice (some ⟨g68, 0, none⟩) 3 3 := (u164 5 (by decide)).trans s5
 replace s6 : f162 6 = .int .i64 0 := (u164 6 (by decide)).trans s6
 replace s8 : f162 8 = .slice (some ⟨g114, 0, none⟩) 3 3 := (u164 8 (by decide)).trans s8
 replace s9 : f162 9 = .int .i64 0 := (u164 9 (by decide)).trans s9
 replace s10 : f162 10 = .slice (some ⟨g134, 0, none⟩) 3 3 := (u164 10 (by decide)).trans s10
 replace s11 : f162 11 = .int .i64 0 := (u164 11 (by decide)).trans s11
 replace s51 : f162 51 = z154.v := (u164 51 (by decide)).trans s51
 replace s52 : f162 52 = .int .i64 0 := (u164 52 (by decide)).trans s52
 replace s12 : f162 12 = Vp g155 0 := (u164 12 (by decide)).trans s12
 have s13 := e163
 clear u164
 refine V.t_done rfl (V.nx (V.seq ?_))
 refine V.reg 5 [(fun v W => ∃ z165 : Fr, v = .tuple #[z165.v, .int .i64 0] ∧ Fr.ok W z165 ∧ (z165.q = 0)), (fun v W => ∃ z168 : Fr, v = .tuple #[z168.v, .int .i64 0] ∧ Fr.ok W z168 ∧ (z168.q = 0)), (fun v W => ∃ z169 : Fr, v = z169.v ∧ Fr.ok W z169 ∧ (z169.q = 0)), V.E (.int .i64 0), V.Nb W161 39 #[.bool false, .slice none 0 0, .bool false, .slice none 0 0]] [4] (V.i hb (V.i r18 (V.i bg14 (V.i r50 (V.i r51 (V.i r72 (V.i r118 (V.i r138 (V.i r159 bg155))))))))) ?_ ?_
 ·refine V.a5 ?_ ?_ ?_ ?_ ?_
  ·refine V.s2 rfl fun f W h => ?_
   refine V.call en21 (V.args2 rfl rfl) (Calls.mono (aw_lev7) ?_)
   rintro e W' ⟨z165, rfl, k166, e167, hb⟩
   exact ⟨_, rfl, ⟨z165, rfl, k166, e167⟩, hb⟩
  ·refine V.s2 rfl fun f W h => ?_
   obtain ⟨z165, a54, k0_0, p0_0⟩ := V.dp h 0 54 (by kernel_rfl) rfl
   exact V.v2 (.tuple #[z165.v, .int .i64 0]) (V.xm (V.ev_tmp rfl a54)) ⟨z165, rfl, k0_0, p0_0⟩
  ·refine V.s2 rfl fun f W h => ?_
   obtain ⟨z168, a53, k1_0, p1_0⟩ := V.dp h 1 53 (by kernel_rfl) rfl
   exact V.v2 (z168.v) (V.xe (V.ev_tmp rfl a53)) ⟨z168, rfl, k1_0, p1_0⟩
  ·refine V.s1 rfl fun f W h => ?_
   obtain ⟨z168, a53, k1_0, p1_0⟩ := V.dp h 1 53 (by kernel_rfl) rfl
   exact V.xe (V.ev_tmp rfl a53)
  ·exact V.sn rfl fun f W h => V.x_alloc
 have o_g14 := bg14.lt
 have o_g44 := r50.blk.lt
 have o_g68 := r72.blk.lt
 have o_g114 := r118.blk.lt
 have o_g134 := r138.blk.lt
 have o_g155 := bg155.lt
 have o_bel := hb.size
 intro f171 W172 e173
 clear hb r18 bg14 r50 r51 r72 r118 r138 r159 bg155
 obtain ⟨⟨hb, r18, bg14, r50, r51, r72, r118, r138, r159, bg155⟩, z_⟩ := e173.g
 obtain ⟨s0, s1, s2, s3, s4, s5, s6, s8, s9⟩ := V.e9 e173 s0 s1 s2 s3 s4 s5 s6 s8 s9
 obtain ⟨s10, s11, s12, s13⟩ := V.e4 e173 s10 s11 s12 s13
 obtain ⟨z169, s55, r174, n175⟩ := V.eq e173 2 55 rfl
 have s56 := V.es e173 3 56 rfl
 obtain ⟨g170, s14, bg170, lg170⟩ := V.eq e173 4 14 rfl
 have mg170 := Nat.le_trans o_bel lg170
 have q14_170 : g14 ≠ g170 := by omega
 have q44_170 : g44 ≠ g170 := by omega
 have q68_170 : g68 ≠ g170 := by omega
 have q114_170 : g114 ≠ g170 := by omega
 have q134_170 : g134 ≠ g170 := by omega
 have q155_170 : g155 ≠ g170 := by omega
 clear e173 z_
 clear o_bel o_g14 o_g44 o_g68 o_g114 o_g134 o_g155
 refine V.tsr (k := 5) rfl s14 s55 bg170 fun W176 hs b' => ?_
 replace hb := hs.bel hb mg170
 replace r18 := hs.fr r18
 replace bg14 := hs.blk bg14 q14_170
 replace r50 := hs.own r50 q44_170
 replace r51 := hs.fr r51
 replace r72 := hs.own r72 q68_170
 replace r118 := hs.own r118 q114_170
 replace r138 := hs.own r138 q134_170
 replace r159 := hs.fr r159
 replace bg155 := hs.blk bg155 q155_170
 replace r174 := hs.fr r174
 replace bg170 := b'
 clear hs b'
 refine V.t_val (k := 6) (v := .int .i64 0) (t := 15) rfl rfl rfl (by kernel_rfl) trivial (V.xs (V.ev_tmp rfl s56)) ?_
 intro f177 e178 u179
 replace s0 : f177 0 = .bool false := (u179 0 (by decide)).trans s0
 replace s1 : f177 1 = Vp g14 0 := (u179 1 (by decide)).trans s1
 replace s2 : f177 2 = .int .i64 0 := (u179 2 (by decide)).trans s2
 replace s3 : f177 3 = .slice (some ⟨g44, 0, none⟩) 3 3 := (u179 3 (by decide)).trans s3
 replace s4 : f177 4 = .int .i64 0 := (u179 4 (by decide)).trans s4
 replace s5 : f177 5 = .slice (some ⟨g68, 0, none⟩) 3 3 := (u179 5 (by decide)).trans s5
 replace s6 : f177 6 = .int .i64 0 := (u179 6 (by decide)).trans s6
 replace s8 : f177 8 = .slice (some ⟨g114, 0, none⟩) 3 3 := (u179 8 (by decide)).trans s8
 replace s9 : f177 9 = .int .i64 0 := (u179 9 (by decide)).trans s9
 replace s10 : f177 10 = .slice (some ⟨g134, 0, none⟩) 3 3 := (u179 10 (by decide)).trans s10
 replace s11 : f177 11 = .int .i64 0 := (u179 11 (by decide)).trans s11
 replace s12 : f177 12 = Vp g155 0 := (u179 12 (by decide)).trans s12
 replace s13 : f177 13 = .int .i64 0 := (u179 13 (by decide)).trans s13
 replace s55 : f177 55 = z169.v := (u179 55 (by decide)).trans s55
 replace s56 : f177 56 = .int .i64 0 := (u179 56 (by decide)).trans s56
 replace s14 : f177 14 = Vp g170 0 := (u179 14 (by decide)).trans s14
 have s15 := e178
 clear u179
 refine V.t_done rfl (V.nx (V.seq (V.seq ?_)))
 refine V.reg 26 [V.E (.int .i64 0), V.E (.bool false), V.E (.bool false), (V.Gd (!false) (V.E (.int .i64 0))), (V.Gd (!false) (V.E (.bool false))), V.E (.bool false), V.E (.bool false), (V.Gd (!false) (V.E (.int .i64 0))), (V.Gd (!false) (V.E (.bool false))), V.E (.bool false), V.E (.bool false), (V.Gd (!false) (V.E (.int .i64 0))), (V.Gd (!false) (V.E (.bool false))), V.E (.bool false), V.E (.bool false), (V.Gd (!false) (V.E (.int .i64 0))), (V.Gd (!false) (V.E (.bool false))), V.E (.bool false), V.E (.bool false), (V.Gd (!false) (V.E (.int .i64 0))), (V.Gd (!false) (V.E (.bool false))), V.E (.bool false), V.E (.bool false), (V.Gd (!false) (V.E (.int .i64 0))), (V.Gd (!false) (V.E (.bool false))), V.E (.bool false)] [] (V.i hb (V.i r18 (V.i bg14 (V.i r50 (V.i r51 (V.i r72 (V.i r118 (V.i r138 (V.i r159 (V.i bg155 (V.i r174 bg170))))))))))) ?_ ?_
 ·refine V.b8 ?_ ?_ ?_ ?_ ?_ ?_ ?_ ?_ (V.b8 ?_ ?_ ?_ ?_ ?_ ?_ ?_ ?_ (V.b8 ?_ ?_ ?_ ?_ ?_ ?_ ?_ ?_ (V.a2 ?_ ?_)))
  ·exact V.mo rfl 2 s2
  ·exact V.z1 rfl fun h => V.xb (V.ed h 0 57 rfl) rfl
  ·exact V.me rfl 1 58 rfl
  ·exact V.gf 2 59 rfl rfl fun hp f W h => V.v1 (V.xm (V.eo h 4 s4))
  ·exact V.gf 2 59 rfl rfl fun hp f W h => V.v1 (V.xb (V.eg h 3 60 rfl hp) rfl)
  ·refine V.s1 rfl fun f W h => ?_
   have d61 := V.dp h 4 61 (by kernel_rfl) rfl
   exact V.x_pick_f (V.ed h 2 59 rfl) (V.ev_tmp rfl (V.gd_on d61 rfl))
  ·exact V.me rfl 5 62 rfl
  ·exact V.gf 6 63 rfl rfl fun hp f W h => V.v1 (V.xm (V.eo h 6 s6))
  ·exact V.gf 6 63 rfl rfl fun hp f W h => V.v1 (V.xb (V.eg h 7 64 rfl hp) rfl)
  ·refine V.s1 rfl fun f W h => ?_
   have d65 := V.dp h 8 65 (by kernel_rfl) rfl
   exact V.x_pick_f (V.ed h 6 63 rfl) (V.ev_tmp rfl (V.gd_on d65 rfl))
  ·exact V.me rfl 9 66 rfl
  ·exact V.gf 10 67 rfl rfl fun hp f W h => V.v1 (V.xm (V.eo h 9 s9))
  ·exact V.gf 10 67 rfl rfl fun hp f W h => V.v1 (V.xb (V.eg h 11 68 rfl hp) rfl)
  ·refine V.s1 rfl fun f W h => ?_
   have d69 := V.dp h 12 69 (by kernel_rfl) rfl
   exact V.x_pick_f (V.ed h 10 67 rfl) (V.ev_tmp rfl (V.gd_on d69 rfl))
  ·exact V.me rfl 13 70 rfl
  ·exact V.gf 14 71 rfl rfl fun hp f W h => V.v1 (V.xm (V.eo h 11 s11))
  ·exact V.gf 14 71 rfl rfl fun hp f W h => V.v1 (V.xb (V.eg h 15 72 rfl hp) rfl)
  ·refine V.s1 rfl fun f W h => ?_
   have d73 := V.dp h 16 73 (by kernel_rfl) rfl
   exact V.x_pick_f (V.ed h 14 71 rfl) (V.ev_tmp rfl (V.gd_on d73 rfl))
  ·exact V.me rfl 17 74 rfl
  ·exact V.gf 18 75 rfl rfl fun hp f W h => V.v1 (V.xm (V.eo h 13 s13))
  ·exact V.gf 18 75 rfl rfl fun hp f W h => V.v1 (V.xb (V.eg h 19 76 rfl hp) rfl)
  ·refine V.s1 rfl fun f W h => ?_
   have d77 := V.dp h 20 77 (by kernel_rfl) rfl
   exact V.x_pick_f (V.ed h 18 75 rfl) (V.ev_tmp rfl (V.gd_on d77 rfl))
  ·exact V.me rfl 21 78 rfl
  ·exact V.gf 22 79 rfl rfl fun hp f W h => V.v1 (V.xm (V.eo h 15 s15))
  ·exact V.gf 22 79 rfl rfl fun hp f W h => V.v1 (V.xb (V.eg h 23 80 rfl hp) rfl)
  ·refine V.s1 rfl fun f W h => ?_
   have d81 := V.dp h 24 81 (by kernel_rfl) rfl
   exact V.x_pick_f (V.ed h 22 79 rfl) (V.ev_tmp rfl (V.gd_on d81 rfl))
 intro f180 W181 e182
 clear hb r18 bg14 r50 r51 r72 r118 r138 r159 bg155 r174 bg170
 obtain ⟨⟨hb, r18, bg14, r50, r51, r72, r118, r138, r159, bg155, r174, bg170⟩, z_⟩ := e182.g
 obtain ⟨s0, s1, s3, s5, s8, s10, s12, s14⟩ := V.e8 e182 s0 s1 s3 s5 s8 s10 s12 s14
 have s82 := V.es e182 25 82 rfl
 clear e182 z_
 refine V.t_done rfl ?_
 have hy2 : (xs45.map Fr.cells)[2]? = some y46.cells := by rw [List.getElem?_map, n53]; rfl
 refine V.nx ?_
 refine V.cond_f (V.ev_tmp rfl s82) ?_
 refine V.skip ?_
 refine V.nx (V.seq (V.seq ?_))
 refine V.reg 28 [V.E (z13.v), (fun v W => ∃ z183 : Fr, v = z183.v ∧ Fr.ok W z183 ∧ (z183.q = ((40 : Nat) : Rat) / ((3 : Nat) : Rat))), V.E (.bool true), V.E (.bool false), V.E (.bool false), (V.Gd (!false) (V.E (.slice (some ⟨g44, 0, none⟩) 3 3))), (V.Gd (!false) (V.E (.int .i64 3))), (V.Gd (!false) (V.E (.bool false))), V.E (.bool false), V.E (.bool false), (V.Gd (!false) (V.E (.slice (some ⟨g44, 0, none⟩) 3 3))), (V.Gd (!false) (V.E (.pointer (some ((adr (some ⟨g44, 0, none⟩)).add (2 * 4 + 0)))))), (V.Gd (!false) (V.E (y46.v))), (V.Gd (!false) (fun v W => ∃ z187 : Fr, v = z187.v ∧ Fr.ok W z187 ∧ (z187.q = ((80 : Nat) : Rat) / ((3 : Nat) : Rat)))), (V.Gd (!false) (V.E (.bool true))), (V.Gd (!false) (V.E (.bool false))), V.E (.bool false), V.E (.bool false), (V.Gd (!false) (V.E (z154.v))), (V.Gd (!false) (fun v W => ∃ z191 : Fr, v = z191.v ∧ Fr.ok W z191 ∧ (z191.q = ((100 : Nat) : Rat)))), (V.Gd (!false) (V.E (.bool true))), (V.Gd (!false) (V.E (.bool false))), V.E (.bool false), V.E (.bool false), (V.Gd (!false) (V.E (z169.v))), (V.Gd (!false) (V.E (.bool true))), (V.Gd (!false) (V.E (.bool false))), V.E (.bool false)] [] (V.i hb (V.i r18 (V.i bg14 (V.i r50 (V.i r51 (V.i r72 (V.i r118 (V.i r138 (V.i r159 (V.i bg155 (V.i r174 bg170))))))))))) ?_ ?_
 ·refine V.b8 ?_ ?_ ?_ ?_ ?_ ?_ ?_ ?_ (V.b8 ?_ ?_ ?_ ?_ ?_ ?_ ?_ ?_ (V.b8 ?_ ?_ ?_ ?_ ?_ ?_ ?_ ?_ (V.a4 ?_ ?_ ?_ ?_)))
  ·exact V.z1 rfl fun h => V.xl (V.eo h 1 s1) (V.lr h.g.1.2.2.1 Tryz.underlying39)
  ·refine V.s2 rfl fun f W h => ?_
   refine V.call en29 (V.args2 rfl rfl) (Calls.mono (RQuick (m := 40) (k := 3) (by decide) (by decide) (by decide)) ?_)
   rintro e W' ⟨z183, rfl, k184, e185, hb⟩
   exact ⟨_, rfl, ⟨z183, rfl, k184, e185⟩, hb⟩
  ·refine V.s2 rfl fun f W h => ?_
   obtain ⟨z183, a84, k1_0, p1_0⟩ := V.dp h 1 84 (by kernel_rfl) rfl
   refine V.call en37 (V.args2 (V.ed h 0 83 rfl) (V.ev_tmp rfl a84)) (Calls.mono (RSame_s h.g.1.2.1 k1_0) ?_)
   rintro e W' ⟨e186, hb⟩
   rw [decide_eq_true (n19.trans p1_0.symm)] at e186
   subst e186
   exact ⟨_, rfl, rfl, hb⟩
  ·exact V.z1 rfl fun h => V.x_un (V.ed h 2 85 rfl)
  ·exact V.me rfl 3 86 rfl
  ·exact V.gf 4 87 rfl rfl fun hp f W h => V.v1 (V.xm (V.eo h 3 s3))
  ·exact V.gf 4 87 rfl rfl fun hp f W h => V.v1 (V.x_len (V.eg h 5 88 rfl hp))
  ·exact V.gf 4 87 rfl rfl fun hp f W h => V.v1 (V.xb (V.eg h 6 89 rfl hp) rfl)
  ·refine V.s1 rfl fun f W h => ?_
   have d90 := V.dp h 7 90 (by kernel_rfl) rfl
   exact V.x_pick_f (V.ed h 4 87 rfl) (V.ev_tmp rfl (V.gd_on d90 rfl))
  ·exact V.me rfl 8 91 rfl
  ·exact V.gf 9 92 rfl rfl fun hp f W h => V.v1 (V.xm (V.eo h 3 s3))
  ·exact V.gf 9 92 rfl rfl fun hp f W h => V.v1 (V.xi (i := 2) (Own.lsn (n := 3) (c := 3) h.g.1.2.2.2.1 ⟨by simp [n52], Nat.le_refl _, by decide⟩) hy2 (V.eg h 10 93 rfl hp) rfl)
  ·exact V.gf 9 92 rfl rfl fun hp f W h => V.v1 (V.xl (V.eg h 11 94 rfl hp) (V.ld_lsE (i := 2) (o := 0) (cs := [.bool (Q.neg y46.q), Vs y46.A (Q.m y46.q) y46.c, .bool false, Vs y46.A' y46.q.den y46.c']) (Own.lsn (n := 3) (c := 3) h.g.1.2.2.2.1 ⟨by simp [n52], Nat.le_refl _, by decide⟩) hy2 Tryz.underlying39))
  ·refine V.gf 9 92 rfl rfl fun hp f W h => ?_
   refine V.call en29 (V.args2 rfl rfl) (Calls.mono (RQuick (m := 80) (k := 3) (by decide) (by decide) (by decide)) ?_)
   rintro e W' ⟨z187, rfl, k188, e189, hb⟩
   exact ⟨_, rfl, ⟨z187, rfl, k188, e189⟩, hb⟩
  ·refine V.gf 9 92 rfl rfl fun hp f W h => ?_
   obtain ⟨z187, a96, k13_0, p13_0⟩ := V.gd_on (V.dp h 13 96 (by kernel_rfl) rfl) hp
   refine V.call en37 (V.args2 (V.eg h 12 95 rfl hp) (V.ev_tmp rfl a96)) (Calls.mono (RSame_s h.g.1.2.2.2.2.1 k13_0) ?_)
   rintro e W' ⟨e190, hb⟩
   rw [decide_eq_true (n54.trans p13_0.symm)] at e190
   subst e190
   exact ⟨_, rfl, rfl, hb⟩
  ·exact V.gf 9 92 rfl rfl fun hp f W h => V.v1 (V.x_un (V.eg h 14 97 rfl hp))
  ·refine V.s1 rfl fun f W h => ?_
   have d98 := V.dp h 15 98 (by kernel_rfl) rfl
   exact V.x_pick_f (V.ed h 9 92 rfl) (V.ev_tmp rfl (V.gd_on d98 rfl))
  ·exact V.me rfl 16 99 rfl
  ·exact V.gf 17 100 rfl rfl fun hp f W h => V.v1 (V.xl (V.eo h 12 s12) (V.lr h.g.1.2.2.2.2.2.2.2.2.2.1 Tryz.underlying39))
  ·refine V.gf 17 100 rfl rfl fun hp f W h => ?_
   refine V.call en17 (V.args1 rfl) (Calls.mono (RFrom (vv := 100) (by decide)) ?_)
   rintro e W' ⟨z191, rfl, k192, e193, hb⟩
   exact ⟨_, rfl, ⟨z191, rfl, k192, e193⟩, hb⟩
  ·refine V.gf 17 100 rfl rfl fun hp f W h => ?_
   obtain ⟨z191, a102, k19_0, p19_0⟩ := V.gd_on (V.dp h 19 102 (by kernel_rfl) rfl) hp
   refine V.call en37 (V.args2 (V.eg h 18 101 rfl hp) (V.ev_tmp rfl a102)) (Calls.mono (RSame_s h.g.1.2.2.2.2.2.2.2.2.1 k19_0) ?_)
   rintro e W' ⟨e194, hb⟩
   rw [decide_eq_true (n160.trans p19_0.symm)] at e194
   subst e194
   exact ⟨_, rfl, rfl, hb⟩
  ·exact V.gf 17 100 rfl rfl fun hp f W h => V.v1 (V.x_un (V.eg h 20 103 rfl hp))
  ·refine V.s1 rfl fun f W h => ?_
   have d104 := V.dp h 21 104 (by kernel_rfl) rfl
   exact V.x_pick_f (V.ed h 17 100 rfl) (V.ev_tmp rfl (V.gd_on d104 rfl))
  ·exact V.me rfl 22 105 rfl
  ·exact V.gf 23 106 rfl rfl fun hp f W h => V.v1 (V.xl (V.eo h 14 s14) (V.lr h.g.1.2.2.2.2.2.2.2.2.2.2.2 Tryz.underlying39))
  ·refine V.gf 23 106 rfl rfl fun hp f W h => ?_
   refine V.call en38 (V.args1 (V.eg h 24 107 rfl hp)) (Calls.mono (Zero_r) ?_)
   rintro e W' ⟨e195, hb⟩
   rw [decide_eq_true n175] at e195
   subst e195
   exact ⟨_, rfl, rfl, hb⟩
  ·exact V.gf 23 106 rfl rfl fun hp f W h => V.v1 (V.x_un (V.eg h 25 108 rfl hp))
  ·refine V.s1 rfl fun f W h => ?_
   have d109 := V.dp h 26 109 (by kernel_rfl) rfl
   exact V.x_pick_f (V.ed h 23 106 rfl) (V.ev_tmp rfl (V.gd_on d109 rfl))
 intro f196 W197 e198
 clear hb r18 bg14 r50 r51 r72 r118 r138 r159 bg155 r174 bg170
 obtain ⟨⟨hb, r18, bg14, r50, r51, r72, r118, r138, r159, bg155, r174, bg170⟩, z_⟩ := e198.g
 obtain ⟨s0, s5, s8, s10⟩ := V.e4 e198 s0 s5 s8 s10
 have s110 := V.es e198 27 110 rfl
 clear e198 z_
 refine V.t_done rfl (V.nx ?_)
 refine V.cond_f (V.ev_tmp rfl s110) ?_
 refine V.skip ?_
 refine V.nx (V.seq ?_)
 clear r18 bg14 r159 bg155 r174 bg170
 refine V.reg 14 [V.E (.slice (some ⟨g68, 0, none⟩) 3 3), (fun v W => ∃ g199 : Nat, v = .slice (some ⟨g199, 0, none⟩) 3 3 ∧ Blk W g199 3 #[.int .i64 13, .int .i64 10, .int .i64 27] ∧ (w.heap.size ≤ g199)), V.E (.bool true), V.E (.bool true), (V.Gd true (V.E (.slice (some ⟨g114, 0, none⟩) 3 3))), (V.Gd true (fun v W => ∃ g201 : Nat, v = .slice (some ⟨g201, 0, none⟩) 3 3 ∧ Blk W g201 3 #[.int .i64 1, .int .i64 1, .int .i64 0] ∧ (w.heap.size ≤ g201))), (V.Gd true (V.E (.bool true))), V.E (.bool true), V.E (.bool true), (V.Gd true (V.E (.slice (some ⟨g134, 0, none⟩) 3 3))), (V.Gd true (fun v W => ∃ g203 : Nat, v = .slice (some ⟨g203, 0, none⟩) 3 3 ∧ Blk W g203 3 #[.int .i64 100, .int .i64 10, .int .i64 100] ∧ (w.heap.size ≤ g203))), (V.Gd true (V.E (.bool true))), V.E (.bool true), V.E (.bool true)] [] (V.i hb (V.i r50 (V.i r51 (V.i r72 (V.i r118 r138))))) ?_ ?_
 ·refine V.b8 ?_ ?_ ?_ ?_ ?_ ?_ ?_ ?_ (V.a6 ?_ ?_ ?_ ?_ ?_ ?_)
  ·exact V.mo rfl 5 s5
  ·refine V.s2 rfl fun f W h => ?_
   exact V.valv (.slice (some ⟨W.heap.size, 0, none⟩) 3 3) (V.c3 rfl rfl rfl) ⟨⟨W.heap.size, rfl, Blk.new W 3 #[.int .i64 13, .int .i64 10, .int .i64 27], h.g.1.1.size⟩, (Below.refl _ _).alloc (Nat.le_refl _) _⟩
  ·refine V.s2 rfl fun f W h => ?_
   obtain ⟨g199, a112, k1_0, p1_0⟩ := V.dp h 1 112 (by kernel_rfl) rfl
   refine V.call en39 (V.args2 (V.ed h 0 111 rfl) (V.ev_tmp rfl a112)) (Calls.mono (SameInts_s (xs := [13, 10, 27]) (ys := [13, 10, 27]) (Own.lsn (n := 3) (c := 3) h.g.1.2.2.2.1 ⟨rfl, Nat.le_refl _, by decide⟩) (Blk.ls3 k1_0)) ?_)
   rintro e W' ⟨e200, hb⟩
   rw [decide_eq_true rfl] at e200
   subst e200
   exact ⟨_, rfl, rfl, hb⟩
  ·exact V.me rfl 2 113 rfl
  ·exact V.gt 3 114 rfl rfl fun hp f W h => V.v1 (V.xm (V.eo h 8 s8))
  ·refine V.gt 3 114 rfl rfl fun hp f W h => ?_
   exact V.valv (.slice (some ⟨W.heap.size, 0, none⟩) 3 3) (V.c3 rfl rfl rfl) ⟨⟨W.heap.size, rfl, Blk.new W 3 #[.int .i64 1, .int .i64 1, .int .i64 0], h.g.1.1.size⟩, (Below.refl _ _).alloc (Nat.le_refl _) _⟩
  ·refine V.gt 3 114 rfl rfl fun hp f W h => ?_
   obtain ⟨g201, a116, k5_0, p5_0⟩ := V.gd_on (V.dp h 5 116 (by kernel_rfl) rfl) hp
   refine V.call en39 (V.args2 (V.eg h 4 115 rfl hp) (V.ev_tmp rfl a116)) (Calls.mono (SameInts_s (xs := [1, 1, 0]) (ys := [1, 1, 0]) (Own.lsn (n := 3) (c := 3) h.g.1.2.2.2.2.1 ⟨rfl, Nat.le_refl _, by decide⟩) (Blk.ls3 k5_0)) ?_)
   rintro e W' ⟨e202, hb⟩
   rw [decide_eq_true rfl] at e202
   subst e202
   exact ⟨_, rfl, rfl, hb⟩
  ·refine V.s1 rfl fun f W h => ?_
   have d117 := V.dp h 6 117 (by kernel_rfl) rfl
   exact V.x_pick_t (V.ed h 3 114 rfl) (V.ev_tmp rfl (V.gd_on d117 rfl))
  ·exact V.me rfl 7 118 rfl
  ·exact V.gt 8 119 rfl rfl fun hp f W h => V.v1 (V.xm (V.eo h 10 s10))
  ·refine V.gt 8 119 rfl rfl fun hp f W h => ?_
   exact V.valv (.slice (some ⟨W.heap.size, 0, none⟩) 3 3) (V.c3 rfl rfl rfl) ⟨⟨W.heap.size, rfl, Blk.new W 3 #[.int .i64 100, .int .i64 10, .int .i64 100], h.g.1.1.size⟩, (Below.refl _ _).alloc (Nat.le_refl _) _⟩
  ·refine V.gt 8 119 rfl rfl fun hp f W h => ?_
   obtain ⟨g203, a121, k10_0, p10_0⟩ := V.gd_on (V.dp h 10 121 (by kernel_rfl) rfl) hp
   refine V.call en39 (V.args2 (V.eg h 9 120 rfl hp) (V.ev_tmp rfl a121)) (Calls.mono (SameInts_s (xs := [100, 10, 100]) (ys := [100, 10, 100]) (Own.lsn (n := 3) (c := 3) h.g.1.2.2.2.2.2 ⟨rfl, Nat.le_refl _, by decide⟩) (Blk.ls3 k10_0)) ?_)
   rintro e W' ⟨e204, hb⟩
   rw [decide_eq_true rfl] at e204
   subst e204
   exact ⟨_, rfl, rfl, hb⟩
  ·refine V.s1 rfl fun f W h => ?_
   have d122 := V.dp h 11 122 (by kernel_rfl) rfl
   exact V.x_pick_t (V.ed h 8 119 rfl) (V.ev_tmp rfl (V.gd_on d122 rfl))
  ·exact V.se rfl 12 123 rfl
 intro f205 W206 e207
 clear hb r50 r51 r72 r118 r138
 obtain ⟨⟨hb, r50, r51, r72, r118, r138⟩, z_⟩ := e207.g
 have s0 := V.es e207 13 0 rfl
 clear e207 z_
 refine V.t_done rfl (V.nx (V.ret ?_))
 refine V.leave_any (.inl rfl) (V.res_tmp rfl rfl s0) ?_
 exact ⟨rfl, hb⟩
theorem en11 : En 11 := en_ Tryz.func11
theorem en12 : En 12 := en_ Tryz.func12
theorem usable_t {A : Option Addr} {c : Nat} {l : List Cl} {w : World} (hl : Ls w 6 A l.length c (l.map Cl.cells)) (hfr : ∀ x ∈ l, Fr.ok w x.w) (hV : ValidC l) (h10 : l.length ≤ 10) {a : Int} (h0 : 0 ≤ a) (h1 : a ≤ 1099511627776) :
  Calls Tryz.prog 12 #[.int .i64 a, .slice A l.length c] w fun e w' => e = .returned (.bool true) ∧ Below w.heap.size w w' := by
 have := usable_s (a := a) (raw_ls hl) (raw_ok hfr)
 unfold usableB at this
 rw [raw_valid hV, List.length_map] at this
 have h3 : decide ((l.length : Int) ≤ 10) = true := decide_eq_true (by omega)
 simpa [h0, h1, h3] using this
theorem usable_typed {a : Int} {l : List Rc} {w : World} (hfr : ∀ r ∈ l, Rc.ok w r) (h : usableB a l = true) : ∃ k : List Cl, l = k.map Cl.raw ∧ ValidC k ∧ k.length ≤ 10 ∧ 0 ≤ a ∧ a ≤ 1099511627776 := by
 unfold usableB at h
 simp only [Bool.and_eq_true, decide_eq_true_eq] at h
 obtain ⟨⟨⟨h1, h2⟩, h3⟩, h4⟩ := h
 obtain ⟨k, e, hk⟩ := valid_typed hfr h4
 rw [e, List.length_map] at h1
 exact ⟨k, e, hk, by omega, h2, h3⟩
theorem typed_ls {A : Option Addr} {n c : Nat} {k : List Cl} {w : World} (h : Ls w 6 A n c ((k.map Cl.raw).map Rc.cells)) : Ls w 6 A n c (k.map Cl.cells) := by
 rw [List.map_map] at h; exact h
theorem typed_ok {k : List Cl} {w : World} (h : ∀ r ∈ k.map Cl.raw, Rc.ok w r) : ∀ x ∈ k, Fr.ok w x.w := fun x hx => by
 have := h x.raw (List.mem_map_of_mem hx)
 exact ⟨this.n, this.d⟩
theorem ExP.sz {a : Int} {l : List Cl} {t : Rat} {xs : List Fr} (h : LevOf a l t) (hx : ExP l t xs) (ha : a ≤ 1099511627776) (hg : ∀ x ∈ l, x.good) (hl : l.length < 20) {j : Nat} {x : Cl} {y : Fr} (h1 : l[j]? = some x) (hy : xs[j]? = some y) : Q.Sz 103 y.q := by
 have gx := hg x (List.mem_of_getElem? h1)
 rw [hx.q j x y h1 hy]
 exact ((Q.Sz.cap gx.b0 gx.b1).mono (by decide)).min ((h.sz ha hg hl).mul gx.s)
theorem cmp_lt {a b : Rat} (h : a < b) : decide ((0 : Int) ≤ Q.cmp a b) = false := by
 unfold Q.cmp; rw [if_pos h]; rfl
theorem cmp_le {a b : Rat} (h : a ≤ b) : decide ((0 : Int) < Q.cmp a b) = false := by
 unfold Q.cmp
 by_cases h1 : a < b
 ·rw [if_pos h1]; rfl
 ·rw [if_neg h1, if_pos (show a = b by grind)]; rfl
end Go.Proofs.YtjbcalbbhomkjaaGreat
namespace Go.Proofs.YtjbcalbbhomkjaaGreat
open Go.ChangeShapes Go.WideShapes Go.ChangeAt Go.RowKit Go.Deep
theorem Tryz.own : ownKnob Tryz.prog.godebug = none := by kernel_rfl
theorem Tryz.laidOut : laidOutB Tryz.prog = true := by kernel_rfl
section
variable {H : Type} {enc : TypeId × Value → H} {W : World} {fuel : Nat} {x : DataW H × List MemPlace}
theorem app2 {a a' b b' : List Value} (h : a = a') (h' : b = b') : a ++ b = a' ++ b' := by rw [h, h']
theorem split2 {cs : List Value} {p q : Nat} (h : cs.length = p + q) : cs = cs.take p ++ (cs.drop p).take q := by
 rw [List.take_of_length_le (l := cs.drop p) (by simp; omega), List.take_append_drop]
theorem open_limbs {cs : List Value} (h : DataW.trod enc Tryz.prog W 0 (fun _ => true) true fuel 33 cs = some x) : ∃ A c, ∃ xs : List Nat, cs = [.slice A xs.length c] ∧ R16 W A xs.length c xs := by
 rcases open_ints Tryz.underlying33 Tryz.underlying51 (by kernel_rfl) h with ⟨rfl, _⟩ | ⟨a, len, cap, zs, rfl, _, hl, hm, hz, _, hc, hw⟩
 ·exact ⟨none, 0, [], rfl, R16.nil (by decide)⟩
 ·have hz' : zs.length = cap := by simpa using hz
  have hmm : cap ≤ 9223372036854775807 := hm
  have hb : ∀ z ∈ zs, 0 ≤ z ∧ z ≤ 65535 := fun z hz => by
   have := hw z hz
   simp only [Lit.wf, Bool.and_eq_true, decide_eq_true_eq] at this
   have h2 := this.2
   exact ⟨this.1, h2⟩
  have hlen : ((zs.take len).map Int.toNat).length = len := by rw [List.length_map, List.length_take]; omega
  refine ⟨some a, cap, (zs.take len).map Int.toNat, by rw [hlen], ?_⟩
  rw [hlen]
  refine ⟨⟨by rw [List.length_map, hlen, Nat.mul_one], hl, hmm, fun h0 => ⟨a, rfl, fun j u hu => ?_⟩⟩, fun y hy => ?_⟩
  ·rw [List.getElem?_map, List.getElem?_map] at hu
   have hj : j < len := by
    rcases Nat.lt_or_ge j len with h1 | h1
    ·exact h1
    ·rw [List.getElem?_eq_none (by rw [List.length_take]; omega)] at hu; cases hu
   rw [List.getElem?_take_of_lt hj, List.getElem?_eq_getElem (show j < zs.length by omega)] at hu
   have h2 := hc j (by omega)
   rw [h2, ← hu]
   have h3 : zs.getD j 0 = zs[j] := by simp [List.getD, List.getElem?_eq_getElem (show j < zs.length by omega)]
   rw [h3]
   have h4 := (hb _ (List.getElem_mem (show j < zs.length by omega))).1
   show some (Value.int .u16 zs[j]) = some (Value.int .u16 ((zs[j].toNat : Nat) : Int))
   rw [Int.toNat_of_nonneg h4]
  ·obtain ⟨z, hz, rfl⟩ := List.mem_map.1 hy
   have := hb z (List.mem_of_mem_take hz)
   omega
theorem open_whole {cs : List Value} (h : DataW.trod enc Tryz.prog W 0 (fun _ => true) true fuel 35 cs = some x) : ∃ b A c, ∃ xs : List Nat, cs = [.bool b, .slice A xs.length c] ∧ R16 W A xs.length c xs := by
 obtain ⟨y0, y1, n, _, hl, h0, h1⟩ := trod_struct2 Tryz.underlying35 h
 have c0 : Tryz.prog.cellsOf 35 = 2 := by kernel_rfl
 have c1 : Tryz.prog.cellsOf 4 = 1 := by kernel_rfl
 have c2 : Tryz.prog.cellsOf 33 = 1 := by kernel_rfl
 rw [c0] at hl
 rw [c1] at h0
 rw [c2] at h1
 obtain ⟨b, e0, _⟩ := DataW.trod_bool Tryz.underlying4 h0
 obtain ⟨A, c, xs, e1, hr⟩ := open_limbs h1
 refine ⟨b, A, c, xs, ?_, hr⟩
 rw [split2 (p := 1) (q := 1) hl]
 exact app2 e0 e1
theorem open_frac {cs : List Value} (h : DataW.trod enc Tryz.prog W 0 (fun _ => true) true fuel 39 cs = some x) : ∃ b A c b' A' c', ∃ xs xs' : List Nat, cs = [.bool b, .slice A xs.length c, .bool b', .slice A' xs'.length c'] ∧ R16 W A xs.length c xs ∧ R16 W A' xs'.length c' xs' := by
 obtain ⟨y0, y1, n, _, hl, h0, h1⟩ := trod_struct2 Tryz.underlying39 h
 have c0 : Tryz.prog.cellsOf 39 = 4 := by kernel_rfl
 have c1 : Tryz.prog.cellsOf 35 = 2 := by kernel_rfl
 rw [c0] at hl
 rw [c1] at h0 h1
 obtain ⟨b, A, c, xs, e0, hr⟩ := open_whole h0
 obtain ⟨b', A', c', xs', e1, hr'⟩ := open_whole h1
 refine ⟨b, A, c, b', A', c', xs, xs', ?_, hr, hr'⟩
 rw [split2 (p := 2) (q := 2) hl]
 exact app2 e0 e1
theorem open_claim {cs : List Value} (h : DataW.trod enc Tryz.prog W 0 (fun _ => true) true fuel 50 cs = some x) : ∃ r : Rc, cs = r.cells ∧ Rc.ok W r := by
 obtain ⟨y0, y1, y2, n, _, hl, h0, h1, h2⟩ := trod_struct3 Tryz.underlying50 h
 have c0 : Tryz.prog.cellsOf 50 = 6 := by kernel_rfl
 have c1 : Tryz.prog.cellsOf 39 = 4 := by kernel_rfl
 have c2 : Tryz.prog.cellsOf 3 = 1 := by kernel_rfl
 rw [c0] at hl
 rw [c1] at h1
 rw [c2] at h0 h2
 obtain ⟨i, e0, _⟩ := DataW.trod_int Tryz.underlying3 h0
 obtain ⟨b, A, c, b', A', c', xs, xs', e1, hr, hr'⟩ := open_frac h1
 obtain ⟨k, e2, _⟩ := DataW.trod_int Tryz.underlying3 h2
 refine ⟨⟨i, b, A, c, xs, b', A', c', xs', k⟩, ?_, hr, hr'⟩
 have hl1 : (cs.drop 1).length = 4 + 1 := by simp [hl]
 rw [split2 (p := 1) (q := 5) hl, List.take_of_length_le (l := cs.drop 1) (by simp [hl]), split2 (p := 4) (q := 1) hl1, List.drop_drop]
 exact app2 e0 (app2 e1 e2)
theorem open_claims {cs : List Value} (h : DataW.trod enc Tryz.prog W 0 (fun _ => true) true fuel 22 cs = some x) : ∃ A c, ∃ l : List Rc, cs = [.slice A l.length c] ∧ Ls W 6 A l.length c (l.map Rc.cells) ∧ ∀ r ∈ l, Rc.ok W r := by
 rcases open_slice Tryz.underlying22 h with ⟨rfl, _⟩ | ⟨a, len, cap, m, n, D, Pl, rfl, _, hl, hm, hmm, _, hx⟩
 ·exact ⟨none, 0, [], rfl, Ls.nil (by decide), fun r hr => by cases hr⟩
 ·have c0 : Tryz.prog.cellsOf 50 = 6 := by kernel_rfl
  have hcm : m = cap := by simpa using hmm
  have hmx : cap ≤ 9223372036854775807 := hm
  rw [c0] at hx
  obtain ⟨R, hR⟩ := choose_lt (α := Rc) (n := len) (p := fun i r => Rc.ok W r ∧ ∀ j u, r.cells[j]? = some u → W.cell? (a.add (i * 6 + j)) = some u) (fun i hi => by
   obtain ⟨cs', h1, h2⟩ := hx i (by omega)
   obtain ⟨_, hlen, hcell⟩ := World.cells?_some h1
   obtain ⟨r, rfl, hok⟩ := open_claim h2
   refine ⟨r, hok, fun j u hu => ?_⟩
   have hj := (List.getElem?_eq_some_iff.1 hu).1
   have := hcell j (by omega)
   rw [add_of_add] at this
   rw [this]; exact hu)
  have hln : ((List.range len).map R).length = len := by rw [List.length_map, List.length_range]
  refine ⟨some a, cap, (List.range len).map R, by rw [hln], ?_, fun r hr => ?_⟩
  ·rw [hln]
   have hcell : ∀ (i : Nat) (y : List Value) (j : Nat) (u : Value), (((List.range len).map R).map Rc.cells)[i]? = some y → y[j]? = some u → W.cell? (a.add (i * 6 + j)) = some u := by
    intro i y j u hy hu
    rw [List.getElem?_map, List.getElem?_map] at hy
    have hi : i < len := by
     rcases Nat.lt_or_ge i len with h1 | h1
     ·exact h1
     ·rw [List.getElem?_eq_none (by rw [List.length_range]; exact h1)] at hy; cases hy
    rw [List.getElem?_range hi] at hy
    have : y = (R i).cells := by simpa using hy.symm
    subst this
    exact (hR i hi).2 j u hu
   refine ⟨by rw [List.length_map, hln], hl, hmx, fun _ => rfl, fun h0 => ?_, hcell⟩
   have := block_lt_of_cell (hcell 0 _ 0 _ (by rw [List.getElem?_map, List.getElem?_map, List.getElem?_range h0]; rfl) rfl)
   rw [block_of_add] at this
   exact this
  ·obtain ⟨i, hi, rfl⟩ := List.mem_map.1 hr
   exact (hR i (List.mem_range.1 hi)).1
end
end Go.Proofs.YtjbcalbbhomkjaaGreat
