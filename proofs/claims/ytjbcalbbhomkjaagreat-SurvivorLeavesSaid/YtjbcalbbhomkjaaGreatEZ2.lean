import Derived.Test.YtjbcalbbhomkjaaGreatEDown
import Derived.Test.YtjbcalbbhomkjaaGreatEBits
import Derived.Test.YtjbcalbbhomkjaaGreatEShelf
import Derived.Test.YtjbcalbbhomkjaaGreatEZ1
set_option maxRecDepth 20000
set_option maxHeartbeats 2000000
namespace Go.Proofs.YtjbcalbbhomkjaaGreat
open Go.RowKit
attribute [local irreducible] RI.frame RI.act RI.Ob RI.Tail RI.out V.Wp V.Fn Oper.wp
theorem en41 : En 41 := en_ Tryz.func41
theorem en44 : En 44 := en_ Tryz.func44
theorem en100 : En 100 := en_ Tryz.func100
theorem en102 : En 102 := en_ Tryz.func102
def wsum : List It → Rat
  | [] => 0
  | x :: r => x.c.w.q + wsum r
theorem wsum_append (a b : List It) : wsum (a ++ b) = wsum a + wsum b := by
  induction a with
  | nil => simp [wsum, Rat.zero_add]
  | cons x r ih => simp only [List.cons_append, wsum, ih]; grind
theorem wsum_take {l : List It} {i : Nat} {x : It} (h : l[i]? = some x) : wsum (l.take (i + 1)) = wsum (l.take i) + x.c.w.q := by
  rw [List.take_add_one, h, wsum_append]; simp [wsum, Rat.add_zero]
theorem drop_cons {α : Type} {l : List α} {i : Nat} {x : α} (h : l[i]? = some x) : l.drop i = x :: l.drop (i + 1) := by
  obtain ⟨hl, e⟩ := List.getElem?_eq_some_iff.1 h
  rw [List.drop_eq_getElem_cons hl, e]
theorem wsum_drop {l : List It} {i : Nat} {x : It} (h : l[i]? = some x) : wsum (l.drop i) - x.c.w.q = wsum (l.drop (i + 1)) := by
  rw [drop_cons h, wsum]; grind
theorem Q.Sz.zero : Q.Sz 1 0 := ⟨by decide, by decide⟩
theorem wsum_sz {l : List It} (h : ∀ x ∈ l, x.good) : Q.Sz (5 * l.length + 1) (wsum l) := by
  induction l with
  | nil => exact Q.Sz.zero
  | cons x r ih =>
    have := (h x (by simp)).s.add (ih fun y hy => h y (by simp [hy]))
    exact this.mono (by simp; omega)
theorem wsum_take_sz {l : List It} (h : ∀ x ∈ l, x.good) (hl : l.length < 20) (i : Nat) : Q.Sz 96 (wsum (l.take i)) := (wsum_sz fun x hx => h x (List.mem_of_mem_take hx)).mono (by rw [List.length_take]; omega)
theorem wsum_drop_sz {l : List It} (h : ∀ x ∈ l, x.good) (hl : l.length < 20) (i : Nat) : Q.Sz 96 (wsum (l.drop i)) := (wsum_sz fun x hx => h x (List.mem_of_mem_drop hx)).mono (by rw [List.length_drop]; omega)
theorem wsum_nonneg {l : List It} (h : ∀ x ∈ l, x.good) : 0 ≤ wsum l := by
  induction l with
  | nil => exact Rat.le_refl
  | cons x r ih =>
    have h1 := (h x (by simp)).p
    have h2 := ih fun y hy => h y (by simp [hy])
    simp only [wsum]; grind
theorem wsum_pos {l : List It} (h : ∀ x ∈ l, x.good) {i : Nat} {x : It} (hx : l[i]? = some x) : 0 < wsum (l.drop i) := by
  rw [drop_cons hx, wsum]
  have h1 := (h x (List.mem_of_getElem? hx)).p
  have h2 := wsum_nonneg (l := l.drop (i + 1)) fun y hy => h y (List.mem_of_mem_drop hy)
  grind
theorem Q.Sz.div {k m : Nat} {a b : Rat} (h : Q.Sz k a) (h' : Q.Sz m b) (h0 : b ≠ 0) : Q.Sz (k + m) (a / b) := by rw [Rat.div_def]; exact h.mul (h'.inv h0)
theorem Q.Sz.top {a : Int} (h : a ≤ 1099511627776) : Q.Sz 3 ((max a 0 : Int) : Rat) := Q.Sz.cap (by omega) (by omega)
def lev (a : Int) (out : Rat) : List It → Rat
  | [] => out
  | x :: r => if ((max a 0 : Int) : Rat) * x.c.w.q < ((x.c.cap : Int) : Rat) * wsum (x :: r) then ((max a 0 : Int) : Rat) / wsum (x :: r) else lev (a - x.c.cap) (((x.c.cap : Int) : Rat) / x.c.w.q) r
theorem lev_stop {l : List It} {i : Nat} {x : It} {a : Int} {o : Rat} (hx : l[i]? = some x) (h : decide (Q.cmp (((max a 0 : Int) : Rat) * x.c.w.q) (((x.c.cap : Int) : Rat) * wsum (l.drop i)) < 0) = true) : lev a o (l.drop i) = ((max a 0 : Int) : Rat) / wsum (l.drop i) := by
  have h' := Q.cmp_lt.1 (of_decide_eq_true h)
  rw [drop_cons hx] at h' ⊢
  unfold lev; rw [if_pos h']
theorem lev_step {l : List It} {i : Nat} {x : It} {a : Int} {o : Rat} (hx : l[i]? = some x) (h : decide (Q.cmp (((max a 0 : Int) : Rat) * x.c.w.q) (((x.c.cap : Int) : Rat) * wsum (l.drop i)) < 0) = false) : lev a o (l.drop i) = lev (a - x.c.cap) (((x.c.cap : Int) : Rat) / x.c.w.q) (l.drop (i + 1)) := by
  have h' : ¬ _ := fun hh => (of_decide_eq_false h) (Q.cmp_lt.2 hh)
  rw [drop_cons hx] at h' ⊢
  conv => lhs; unfold lev
  rw [if_neg h']
theorem level_s {A : Option Addr} {c : Nat} {l : List Cl} {w : World} (hl : Ls w 6 A l.length c (l.map Cl.cells)) (hfr : ∀ x ∈ l, Fr.ok w x.w) (hgood : ∀ x ∈ l, x.good) (h20 : l.length < 20) {a : Int} (h0 : 0 ≤ a) (h1 : a ≤ 1099511627776) :
    Calls Tryz.prog 58 #[.int .i64 a, .slice A l.length c] w fun e w' => ∃ ys : List It, (ys.map It.c).Perm (l.filter nz) ∧ Ins.Upto ltI ys ys.length ∧ FrOut w (lev a 0 ys) e w' := by
 refine V.nt Tryz.func58 rfl rfl fun f0 hf => ?_
 have s0 : f0 0 = .int .i64 a := hf 0 (by simp)
 have s1 : f0 1 = .slice A l.length c := hf 1 (by simp)
 clear hf
 have hb := Below.refl w.heap.size w
 refine V.seq ?_
 refine V.reg 1 [V.Nb w 39 #[.bool false, .slice none 0 0, .bool false, .slice none 0 0]] [0] (V.i hl (V.i hfr hb)) ?_ ?_
 ·refine V.ac ?_ V.an
  ·exact V.sn rfl fun f W h => V.x_alloc
 have o_bel := hb.size
 have ob_hl := hl.blt
 intro f2 W3 e4
 clear hl hfr hb
 obtain ⟨⟨hl, hfr, hb⟩, z_⟩ := e4.g
 obtain ⟨s0, s1⟩ := V.e2 e4 s0 s1
 obtain ⟨g1, s4, bg1, lg1⟩ := V.eq e4 0 4 rfl
 have mg1 := Nat.le_trans o_bel lg1
 clear e4 z_
 clear o_bel ob_hl
 refine V.t_done rfl (V.nx (V.seq ?_))
 refine V.reg 3 [V.E (.slice A l.length c), (fun v W => ∃ A5 : Option Addr, ∃ c6 : Nat, ∃ ys7 : List It, v = .slice A5 ys7.length c6 ∧ Ls W 7 A5 ys7.length c6 (ys7.map It.cells) ∧ (∀ y ∈ ys7, Fr.ok W y.c.w) ∧ ((ys7.map It.c).Perm (l.filter nz)) ∧ (Ins.Upto ltI ys7 ys7.length) ∧ (∀ y ∈ ys7, y.good) ∧ (0 < ys7.length → W3.heap.size ≤ (adr A5).block)), (fun v W => ∃ A14 : Option Addr, ∃ c15 : Nat, ∃ ys16 : List It, v = .slice A14 ys16.length c15 ∧ Ls W 7 A14 ys16.length c15 (ys16.map It.cells) ∧ (∀ y ∈ ys16, Fr.ok W y.c.w) ∧ ((ys16.map It.c).Perm (l.filter nz)) ∧ (Ins.Upto ltI ys16 ys16.length) ∧ (∀ y ∈ ys16, y.good) ∧ (0 < ys16.length → W3.heap.size ≤ (adr A14).block))] [] (V.i hl (V.i hfr (V.i hb bg1))) ?_ ?_
 ·refine V.a3 ?_ ?_ ?_
  ·exact V.mo rfl 1 s1
  ·refine V.s2 rfl fun f W h => ?_
   refine V.call en41 (V.args1 (V.ed h 0 13 rfl)) (Calls.mono (items_s h.g.1.1 h.g.1.2.1 hgood h20) ?_)
   rintro e W' ⟨A5, c6, ys7, rfl, p8, p9, p10, p11, p12, p13, hb⟩
   exact ⟨_, rfl, ⟨A5, c6, ys7, rfl, p10, p11, p8, p9, p12, fun h0 => Nat.le_trans h.g.2 (p13 h0)⟩, hb⟩
  ·refine V.s2 rfl fun f W h => ?_
   obtain ⟨A5, c6, ys7, a14, k1_0, k1_1, p1_0, p1_1, p1_2, p1_3⟩ := V.dp h 1 14 (by kernel_rfl) rfl
   exact V.v2 (.slice A5 ys7.length c6) (V.xs (V.ev_tmp rfl a14)) ⟨A5, c6, ys7, rfl, k1_0, k1_1, p1_0, p1_1, p1_2, p1_3⟩
 have o_g1 := bg1.lt
 intro f17 W18 e19
 clear hl hfr hb bg1
 obtain ⟨⟨hl, hfr, hb, bg1⟩, z_⟩ := e19.g
 obtain ⟨s0, s1, s4⟩ := V.e3 e19 s0 s1 s4
 obtain ⟨A14, c15, ys16, s5, r20, r21, n22, n23, n24, n25⟩ := V.eq e19 2 5 rfl
 have q26 : 0 < ys16.length → (adr A14).block ≠ g1 := fun h => Nat.ne_of_gt (Nat.lt_of_lt_of_le o_g1 (n25 h))
 clear e19 z_
 clear o_g1
 refine V.t_done rfl (V.nx (V.seq ?_))
 refine V.reg 2 [(fun v W => ∃ z27 : Fr, v = z27.v ∧ Fr.ok W z27 ∧ (z27.q = (0 : Rat))), V.Nb W18 39 #[.bool false, .slice none 0 0, .bool false, .slice none 0 0]] [1] (V.i hl (V.i hfr (V.i hb (V.i bg1 (V.i r20 r21))))) ?_ ?_
 ·refine V.a2 ?_ ?_
  ·refine V.s2 rfl fun f W h => ?_
   refine V.call en20 (V.args1 rfl) (Calls.mono (FromInt_s (x := 0) (by decide) (by decide)) ?_)
   rintro e W' ⟨z27, rfl, k28, e29, hb⟩
   exact ⟨_, rfl, ⟨z27, rfl, k28, e29⟩, hb⟩
  ·exact V.sn rfl fun f W h => V.x_alloc
 have o_g1 := bg1.lt
 have o_bel := hb.size
 have ob_hl := hl.blt
 have ob_r20 := r20.blt
 intro f31 W32 e33
 clear hl hfr hb bg1 r20 r21
 obtain ⟨⟨hl, hfr, hb, bg1, r20, r21⟩, z_⟩ := e33.g
 obtain ⟨s0, s1, s4, s5⟩ := V.e4 e33 s0 s1 s4 s5
 obtain ⟨z27, s15, r34, n35⟩ := V.eq e33 0 15 rfl
 obtain ⟨g30, s6, bg30, lg30⟩ := V.eq e33 1 6 rfl
 have mg30 := Nat.le_trans o_bel lg30
 have q1_30 : g1 ≠ g30 := by omega
 have q_hl_g30 : 0 < l.length → (adr A).block ≠ g30 := fun h => Nat.ne_of_lt (Nat.lt_of_lt_of_le (ob_hl h) lg30)
 have q_r20_g30 : 0 < ys16.length → (adr A14).block ≠ g30 := fun h => Nat.ne_of_lt (Nat.lt_of_lt_of_le (ob_r20 h) lg30)
 clear e33 z_
 clear o_bel o_g1 ob_hl ob_r20
 refine V.tsr (k := 2) rfl s6 s15 bg30 fun W36 hs b' => ?_
 replace hl := hs.ls hl q_hl_g30
 replace hfr := (fun x_0 hx_0 => hs.fr (hfr x_0 hx_0))
 replace hb := hs.bel hb mg30
 replace bg1 := hs.blk bg1 q1_30
 replace r20 := hs.ls r20 q_r20_g30
 replace r21 := (fun x_0 hx_0 => hs.fr (r21 x_0 hx_0))
 replace r34 := hs.fr r34
 replace bg30 := b'
 clear hs b'
 refine V.t_done rfl (V.nx (V.seq (V.seq ?_)))
 refine V.reg 3 [V.E (.slice A14 ys16.length c15), V.E (.int .i64 (ys16.length : Int)), V.E (.int .i64 0)] [] (V.i hl (V.i hfr (V.i hb (V.i bg1 (V.i r20 (V.i r21 (V.i r34 bg30))))))) ?_ ?_
 ·refine V.a3 ?_ ?_ ?_
  ·exact V.mo rfl 5 s5
  ·exact V.z1 rfl fun h => V.x_len (V.ed h 0 16 rfl)
  ·exact V.z1 rfl fun h => V.xm rfl
 intro f37 W38 e39
 clear hl hfr hb bg1 r20 r21 r34 bg30
 obtain ⟨⟨hl, hfr, hb, bg1, r20, r21, r34, bg30⟩, z_⟩ := e39.g
 obtain ⟨s0, s1, s4, s5, s6⟩ := V.e5 e39 s0 s1 s4 s5 s6
 have s16 := V.es e39 0 16 rfl
 have s17 := V.es e39 1 17 rfl
 have s18 := V.es e39 2 18 rfl
 clear e39 z_
 refine V.t_done rfl (V.nx (V.block ?_))
 have gy := n24
 have h20y : ys16.length < 20 := by have h1 := (n22).length_eq; have h2 := List.length_filter_le nz l; rw [List.length_map] at h1; omega
 refine V.loop (fun k f W => ∃ i : Nat, ∃ u : Fr, (k = ys16.length - i ∧ (i ≤ ys16.length) ∧ (u.q = wsum (ys16.take i))) ∧ (f 0 = .int .i64 a ∧ f 4 = Vp g1 0 ∧ f 5 = .slice A14 ys16.length c15 ∧ f 6 = Vp g30 0 ∧ f 16 = .slice A14 ys16.length c15 ∧ f 17 = .int .i64 (ys16.length : Int) ∧ f 18 = .int .i64 (i : Int)) ∧ (Below w.heap.size w W ∧ Ls W 7 A14 ys16.length c15 (ys16.map It.cells) ∧ (∀ y ∈ ys16, Fr.ok W y.c.w) ∧ Blk W g1 39 #[.bool false, .slice none 0 0, .bool false, .slice none 0 0] ∧ Blk W g30 39 u.cs ∧ Fr.ok W u)) (ys16.length - 0) ⟨0, z27, ⟨rfl, by omega, by rw [n35]; first | done | simp [wsum]⟩, ⟨s0, s4, s5, s6, s16, s17, (s18.trans (by simp))⟩, ⟨hb, r20, r21, bg1, bg30, r34⟩⟩ ?_
 clear hl hfr hb bg1 r20 r21 r34 bg30 s0 s1 s4 s5 s6 s16 s17 s18
 rintro k42 f40 W41 ⟨i, u, ⟨hk49, hil, hu⟩, ⟨s0, s4, s5, s6, s16, s17, s18⟩, ⟨r43, r44, r45, r46, r47, r48⟩⟩
 refine V.seq ?_
 refine V.reg 1 [V.E (.bool (decide ((i : Int) < (ys16.length : Int))))] [] (V.i r43 (V.i r44 (V.i r45 (V.i r46 (V.i r47 r48))))) ?_ ?_
 ·refine V.ac ?_ V.an
  ·exact V.z1 rfl fun h => V.xb (V.eo h 18 s18) (V.eo h 17 s17)
 intro f50 W51 e52
 clear r43 r44 r45 r46 r47 r48
 obtain ⟨⟨r43, r44, r45, r46, r47, r48⟩, z_⟩ := e52.g
 obtain ⟨s0, s4, s5, s6, s16, s17, s18⟩ := V.e7 e52 s0 s4 s5 s6 s16 s17 s18
 have s19 := V.es e52 0 19 rfl
 clear e52 z_
 refine V.t_done rfl (V.nx (V.seq ?_))
 cases hc53 : (decide ((i : Int) < (ys16.length : Int)))
 ·have s19_ : f50 19 = .bool false := s19.trans (by rw [hc53])
  refine V.cond_f (V.ev_tmp rfl s19_) ?_
  have hi : i = ys16.length := by have := of_decide_eq_false hc53; omega
  rw [hi, List.take_length] at hu
  refine V.exit (V.tx (V.tx (V.bx (V.nx (V.seq ?_)))))
  refine V.reg 2 [(fun v W => ∃ z54 : Fr, v = z54.v ∧ Fr.ok W z54 ∧ (z54.q = (0 : Rat))), V.Nb W51 39 #[.bool false, .slice none 0 0, .bool false, .slice none 0 0]] [1] (V.i r43 (V.i r44 (V.i r45 (V.i r46 (V.i r47 r48))))) ?_ ?_
  ·refine V.a2 ?_ ?_
   ·refine V.s2 rfl fun f W h => ?_
    refine V.call en20 (V.args1 rfl) (Calls.mono (FromInt_s (x := 0) (by decide) (by decide)) ?_)
    rintro e W' ⟨z54, rfl, k55, e56, hb⟩
    exact ⟨_, rfl, ⟨z54, rfl, k55, e56⟩, hb⟩
   ·exact V.sn rfl fun f W h => V.x_alloc
  have o_g1 := r46.lt
  have o_g30 := r47.lt
  have o_bel := r43.size
  have ob_r44 := r44.blt
  intro f58 W59 e60
  clear r43 r44 r45 r46 r47 r48
  obtain ⟨⟨r43, r44, r45, r46, r47, r48⟩, z_⟩ := e60.g
  obtain ⟨s0, s4, s5, s6⟩ := V.e4 e60 s0 s4 s5 s6
  obtain ⟨z54, s28, r61, n62⟩ := V.eq e60 0 28 rfl
  obtain ⟨g57, s9, bg57, lg57⟩ := V.eq e60 1 9 rfl
  have mg57 := Nat.le_trans o_bel lg57
  have q1_57 : g1 ≠ g57 := by omega
  have q30_57 : g30 ≠ g57 := by omega
  have q_r44_g57 : 0 < ys16.length → (adr A14).block ≠ g57 := fun h => Nat.ne_of_lt (Nat.lt_of_lt_of_le (ob_r44 h) lg57)
  clear e60 z_
  clear o_bel o_g1 o_g30 ob_r44
  refine V.tsr (k := 2) rfl s9 s28 bg57 fun W63 hs b' => ?_
  replace r43 := hs.bel r43 mg57
  replace r44 := hs.ls r44 q_r44_g57
  replace r45 := (fun x_0 hx_0 => hs.fr (r45 x_0 hx_0))
  replace r46 := hs.blk r46 q1_57
  replace r47 := hs.blk r47 q30_57
  replace r48 := hs.fr r48
  replace r61 := hs.fr r61
  replace bg57 := b'
  clear hs b'
  refine V.t_done rfl (V.nx (V.seq (V.seq ?_)))
  refine V.reg 3 [V.E (.slice A14 ys16.length c15), V.E (.int .i64 (ys16.length : Int)), V.E (.int .i64 0)] [] (V.i r43 (V.i r44 (V.i r45 (V.i r46 (V.i r47 (V.i r48 (V.i r61 bg57))))))) ?_ ?_
  ·refine V.a3 ?_ ?_ ?_
   ·exact V.mo rfl 5 s5
   ·exact V.z1 rfl fun h => V.x_len (V.ed h 0 29 rfl)
   ·exact V.z1 rfl fun h => V.xm rfl
  intro f64 W65 e66
  clear r43 r44 r45 r46 r47 r48 r61 bg57
  obtain ⟨⟨r43, r44, r45, r46, r47, r48, r61, bg57⟩, z_⟩ := e66.g
  obtain ⟨s0, s4, s6, s9⟩ := V.e4 e66 s0 s4 s6 s9
  have s29 := V.es e66 0 29 rfl
  have s30 := V.es e66 1 30 rfl
  have s31 := V.es e66 2 31 rfl
  clear e66 z_
  refine V.t_done rfl (V.nx (V.block ?_))
  refine V.loop (fun k f W => ∃ i : Nat, ∃ b : Int, ∃ wt : Fr, ∃ o : Fr, (k = ys16.length - i ∧ (i ≤ ys16.length) ∧ (b ≤ 1099511627776) ∧ (-(1099511627776 * (i : Int)) ≤ b) ∧ (wt.q = wsum (ys16.drop i)) ∧ (lev a 0 ys16 = lev b o.q (ys16.drop i))) ∧ (f 0 = .int .i64 b ∧ f 4 = Vp g1 0 ∧ f 6 = Vp g30 0 ∧ f 9 = Vp g57 0 ∧ f 29 = .slice A14 ys16.length c15 ∧ f 30 = .int .i64 (ys16.length : Int) ∧ f 31 = .int .i64 (i : Int)) ∧ (Below w.heap.size w W ∧ Ls W 7 A14 ys16.length c15 (ys16.map It.cells) ∧ (∀ y ∈ ys16, Fr.ok W y.c.w) ∧ Blk W g1 39 #[.bool false, .slice none 0 0, .bool false, .slice none 0 0] ∧ Blk W g30 39 wt.cs ∧ Fr.ok W wt ∧ Blk W g57 39 o.cs ∧ Fr.ok W o)) (ys16.length - 0) ⟨0, a, u, z54, ⟨rfl, by omega, h1, by omega, by rw [hu, List.drop_zero], by rw [n62, List.drop_zero]⟩, ⟨s0, s4, s6, s9, s29, s30, (s31.trans (by simp))⟩, ⟨r43, r44, r45, r46, r47, r48, bg57, r61⟩⟩ ?_
  clear r43 r44 r45 r46 r47 r48 r61 bg57 s0 s4 s6 s9 s29 s30 s31
  rintro k69 f67 W68 ⟨i, b, wt, o, ⟨hk78, hil, ha1, ha0, hv, hlev⟩, ⟨s0, s4, s6, s9, s29, s30, s31⟩, ⟨r70, r71, r72, r73, r74, r75, r76, r77⟩⟩
  refine V.seq ?_
  refine V.reg 1 [V.E (.bool (decide ((i : Int) < (ys16.length : Int))))] [] (V.i r70 (V.i r71 (V.i r72 (V.i r73 (V.i r74 (V.i r75 (V.i r76 r77))))))) ?_ ?_
  ·refine V.ac ?_ V.an
   ·exact V.z1 rfl fun h => V.xb (V.eo h 31 s31) (V.eo h 30 s30)
  intro f79 W80 e81
  clear r70 r71 r72 r73 r74 r75 r76 r77
  obtain ⟨⟨r70, r71, r72, r73, r74, r75, r76, r77⟩, z_⟩ := e81.g
  obtain ⟨s0, s4, s6, s9, s29, s30, s31⟩ := V.e7 e81 s0 s4 s6 s9 s29 s30 s31
  have s32 := V.es e81 0 32 rfl
  clear e81 z_
  refine V.t_done rfl (V.nx (V.seq ?_))
  cases hc82 : (decide ((i : Int) < (ys16.length : Int)))
  ·have s32_ : f79 32 = .bool false := s32.trans (by rw [hc82])
   refine V.cond_f (V.ev_tmp rfl s32_) ?_
   have hi : i = ys16.length := by have := of_decide_eq_false hc82; omega
   rw [hi, List.drop_length] at hlev
   refine V.exit (V.tx (V.tx (V.bx (V.nx (V.seq ?_)))))
   refine V.reg 1 [V.E (o.v)] [] (V.i r70 (V.i r71 (V.i r72 (V.i r73 (V.i r74 (V.i r75 (V.i r76 r77))))))) ?_ ?_
   ·refine V.ac ?_ V.an
    ·exact V.z1 rfl fun h => V.xl (V.eo h 9 s9) (V.lr h.g.1.2.2.2.2.2.2.1 Tryz.underlying39)
   intro f83 W84 e85
   clear r70 r71 r72 r73 r74 r75 r76 r77
   obtain ⟨⟨r70, r71, r72, r73, r74, r75, r76, r77⟩, z_⟩ := e85.g
   obtain ⟨s0, s4⟩ := V.e2 e85 s0 s4
   have s65 := V.es e85 0 65 rfl
   clear e85 z_
   refine V.tsr (k := 1) rfl s4 s65 r73 fun W86 hs b' => ?_
   replace r70 := hs.bel r70 mg1
   replace r71 := hs.ls r71 q26
   replace r72 := (fun x_0 hx_0 => hs.fr (r72 x_0 hx_0))
   replace r74 := hs.blk r74 (Ne.symm q1_30)
   replace r75 := hs.fr r75
   replace r76 := hs.blk r76 (Ne.symm q1_57)
   replace r77 := hs.fr r77
   replace r73 := b'
   clear hs b'
   refine V.t_done rfl (V.nx (V.ret ?_))
   refine V.leave_any (.inl rfl) (V.res_cell rfl rfl s4 (V.lr r73 Tryz.underlying39 rfl (by kernel_rfl))) ?_
   exact ⟨ys16, n22, n23, o, rfl, r77, (hlev.trans (by rw [lev])).symm, r70⟩
  ·have s32_ : f79 32 = .bool true := s32.trans (by rw [hc82])
   refine V.cond_t (V.ev_tmp rfl s32_) ?_
   have hi : i < ys16.length := by have := of_decide_eq_true hc82; omega
   obtain ⟨y, my, ey, ey_⟩ := V.at_map It.cells (l := ys16) (i := i) hi
   have g_ := gy y my
   have gb0 := g_.b0
   have gb1 := g_.b1
   have fy := r72 y my
   refine V.skip ?_
   refine V.nx (V.seq (V.block (V.seq ?_)))
   refine V.reg 3 [V.E (.pointer (some ((adr A14).add (i * 7 + 0)))), V.E (y.v), V.Nb W80 72 #[.int .i64 0, .bool false, .slice none 0 0, .bool false, .slice none 0 0, .int .i64 0, .int .i64 0]] [2] (V.i r70 (V.i r71 (V.i r72 (V.i r73 (V.i r74 (V.i r75 (V.i r76 (V.i r77 fy)))))))) ?_ ?_
   ·refine V.a3 ?_ ?_ ?_
    ·exact V.z1 rfl fun h => V.xi (i := i) h.g.1.2.1 ey_ (V.eo h 29 s29) (V.eo h 31 s31)
    ·exact V.z1 rfl fun h => V.xl (V.ed h 0 33 rfl) (V.ld_lsE (i := i) (o := 0) (cs := [.int .i64 y.c.id, .bool (Q.neg y.c.w.q), Vs y.c.w.A (Q.m y.c.w.q) y.c.w.c, .bool false, Vs y.c.w.A' y.c.w.q.den y.c.w.c', .int .i64 y.c.cap, .int .i64 y.at_]) h.g.1.2.1 ey_ Tryz.underlying72)
    ·exact V.sn rfl fun f W h => V.x_alloc
   have o_g1 := r73.lt
   have o_g30 := r74.lt
   have o_g57 := r76.lt
   have o_bel := r70.size
   have ob_r71 := r71.blt
   intro f88 W89 e90
   clear r70 r71 r72 r73 r74 r75 r76 r77 fy
   obtain ⟨⟨r70, r71, r72, r73, r74, r75, r76, r77, fy⟩, z_⟩ := e90.g
   obtain ⟨s0, s4, s6, s9, s29, s30, s31⟩ := V.e7 e90 s0 s4 s6 s9 s29 s30 s31
   have s34 := V.es e90 1 34 rfl
   obtain ⟨g87, s11, bg87, lg87⟩ := V.eq e90 2 11 rfl
   have mg87 := Nat.le_trans o_bel lg87
   have q1_87 : g1 ≠ g87 := by omega
   have q30_87 : g30 ≠ g87 := by omega
   have q57_87 : g57 ≠ g87 := by omega
   have q_r71_g87 : 0 < ys16.length → (adr A14).block ≠ g87 := fun h => Nat.ne_of_lt (Nat.lt_of_lt_of_le (ob_r71 h) lg87)
   clear e90 z_
   clear o_bel o_g1 o_g30 o_g57 ob_r71
   refine V.tsr (k := 3) rfl s11 s34 bg87 fun W91 hs b' => ?_
   replace r70 := hs.bel r70 mg87
   replace r71 := hs.ls r71 q_r71_g87
   replace r72 := (fun x_0 hx_0 => hs.fr (r72 x_0 hx_0))
   replace r73 := hs.blk r73 q1_87
   replace r74 := hs.blk r74 q30_87
   replace r75 := hs.fr r75
   replace r76 := hs.blk r76 q57_87
   replace r77 := hs.fr r77
   replace fy := hs.fr fy
   replace bg87 := b'
   clear hs b'
   refine V.t_done rfl (V.nx (V.seq ?_))
   refine V.reg 4 [V.E (.int .i64 b), V.E (.int .i64 (max b 0)), (fun v W => ∃ z92 : Fr, v = z92.v ∧ Fr.ok W z92 ∧ (z92.q = ((((max b 0) : Int) : Rat) : Rat))), V.Nb W91 39 #[.bool false, .slice none 0 0, .bool false, .slice none 0 0]] [3] (V.i r70 (V.i r71 (V.i r72 (V.i r73 (V.i r74 (V.i r75 (V.i r76 (V.i r77 (V.i fy bg87))))))))) ?_ ?_
   ·refine V.a4 ?_ ?_ ?_ ?_
    ·exact V.mo rfl 0 s0
    ·exact V.z1 rfl fun h => V.x_max (V.ed h 0 35 rfl) rfl
    ·refine V.s2 rfl fun f W h => ?_
     refine V.call en20 (V.args1 (V.ed h 1 36 rfl)) (Calls.mono (FromInt_s (x := (max b 0)) (by omega) (by omega)) ?_)
     rintro e W' ⟨z92, rfl, k93, e94, hb⟩
     exact ⟨_, rfl, ⟨z92, rfl, k93, e94⟩, hb⟩
    ·exact V.sn rfl fun f W h => V.x_alloc
   have o_g1 := r73.lt
   have o_g30 := r74.lt
   have o_g57 := r76.lt
   have o_g87 := bg87.lt
   have o_bel := r70.size
   have ob_r71 := r71.blt
   intro f96 W97 e98
   clear r70 r71 r72 r73 r74 r75 r76 r77 fy bg87
   obtain ⟨⟨r70, r71, r72, r73, r74, r75, r76, r77, fy, bg87⟩, z_⟩ := e98.g
   obtain ⟨s0, s4, s6, s9, s29, s30, s31, s11⟩ := V.e8 e98 s0 s4 s6 s9 s29 s30 s31 s11
   obtain ⟨z92, s37, r99, n100⟩ := V.eq e98 2 37 rfl
   obtain ⟨g95, s12, bg95, lg95⟩ := V.eq e98 3 12 rfl
   have mg95 := Nat.le_trans o_bel lg95
   have q1_95 : g1 ≠ g95 := by omega
   have q30_95 : g30 ≠ g95 := by omega
   have q57_95 : g57 ≠ g95 := by omega
   have q87_95 : g87 ≠ g95 := by omega
   have q_r71_g95 : 0 < ys16.length → (adr A14).block ≠ g95 := fun h => Nat.ne_of_lt (Nat.lt_of_lt_of_le (ob_r71 h) lg95)
   clear e98 z_
   clear o_bel o_g1 o_g30 o_g57 o_g87 ob_r71
   refine V.tsr (k := 4) rfl s12 s37 bg95 fun W101 hs b' => ?_
   replace r70 := hs.bel r70 mg95
   replace r71 := hs.ls r71 q_r71_g95
   replace r72 := (fun x_0 hx_0 => hs.fr (r72 x_0 hx_0))
   replace r73 := hs.blk r73 q1_95
   replace r74 := hs.blk r74 q30_95
   replace r75 := hs.fr r75
   replace r76 := hs.blk r76 q57_95
   replace r77 := hs.fr r77
   replace fy := hs.fr fy
   replace bg87 := hs.blk bg87 q87_95
   replace r99 := hs.fr r99
   replace bg95 := b'
   clear hs b'
   refine V.t_done rfl (V.nx (V.seq (V.seq ?_)))
   refine V.reg 11 [V.E (z92.v), V.E (Vp g87 0), V.E (Vp g87 1), V.E (y.c.w.v), (fun v W => ∃ z102 : Fr, v = z102.v ∧ Fr.ok W z102 ∧ (z102.q = (((((max b 0) : Int) : Rat) : Rat) * y.c.w.q))), V.E (y.v), (fun v W => ∃ z105 : Fr, v = z105.v ∧ Fr.ok W z105 ∧ (z105.q = ((y.c.cap : Int) : Rat))), V.E (wt.v), (fun v W => ∃ z108 : Fr, v = z108.v ∧ Fr.ok W z108 ∧ (z108.q = (((y.c.cap : Int) : Rat) * wt.q))), V.E (.int .i64 (Q.cmp (((((max b 0) : Int) : Rat) : Rat) * y.c.w.q) (((y.c.cap : Int) : Rat) * wt.q))), V.E (.bool (decide ((Q.cmp (((((max b 0) : Int) : Rat) : Rat) * y.c.w.q) (((y.c.cap : Int) : Rat) * wt.q)) < 0)))] [] (V.i r70 (V.i r71 (V.i r72 (V.i r73 (V.i r74 (V.i r75 (V.i r76 (V.i r77 (V.i fy (V.i bg87 (V.i r99 bg95))))))))))) ?_ ?_
   ·refine V.b8 ?_ ?_ ?_ ?_ ?_ ?_ ?_ ?_ (V.a3 ?_ ?_ ?_)
    ·exact V.z1 rfl fun h => V.xl (V.eo h 12 s12) (V.lr h.g.1.2.2.2.2.2.2.2.2.2.2.2 Tryz.underlying39)
    ·exact V.z1 rfl fun h => V.xa (V.eo h 11 s11)
    ·exact V.z1 rfl fun h => V.xa (V.ed h 1 39 rfl)
    ·exact V.z1 rfl fun h => V.xl (V.ed h 2 40 rfl) (V.ld_mid (xs := [.bool (Q.neg y.c.w.q), Vs y.c.w.A (Q.m y.c.w.q) y.c.w.c, .bool false, Vs y.c.w.A' y.c.w.q.den y.c.w.c']) h.g.1.2.2.2.2.2.2.2.2.2.1 (by intro j hj; match j, hj with | 0, _ => rfl | 1, _ => rfl | 2, _ => rfl | 3, _ => rfl) Tryz.underlying39)
    ·refine V.s2 rfl fun f W h => ?_
     refine V.call en77 (V.args2 (V.ed h 0 38 rfl) (V.ed h 3 41 rfl)) (Calls.mono (timesS h.g.1.2.2.2.2.2.2.2.2.2.2.1 h.g.1.2.2.2.2.2.2.2.2.1 (by rw [n100]; exact ((Q.Sz.top ha1).mono (by decide))) (g_.s.mono (by decide)) (by rw [n100]; exact (((Q.Sz.top ha1).mul g_.s).mono (by decide)))) ?_)
     rintro e W' ⟨z102, rfl, k103, e104, hb⟩
     exact ⟨_, rfl, ⟨z102, rfl, k103, e104.trans (by rw [n100])⟩, hb⟩
    ·exact V.z1 rfl fun h => V.xl (V.eo h 11 s11) (V.lr h.g.1.2.2.2.2.2.2.2.2.2.1 Tryz.underlying72)
    ·refine V.s2 rfl fun f W h => ?_
     refine V.call en81 (V.args1 (V.ed h 5 43 rfl)) (Calls.mono (limit_s g_.b0 g_.b1) ?_)
     rintro e W' ⟨z105, rfl, k106, e107, hb⟩
     exact ⟨_, rfl, ⟨z105, rfl, k106, e107⟩, hb⟩
    ·exact V.z1 rfl fun h => V.xl (V.eo h 6 s6) (V.lr h.g.1.2.2.2.2.1 Tryz.underlying39)
    ·refine V.s2 rfl fun f W h => ?_
     obtain ⟨z105, a44, k6_0, p6_0⟩ := V.dp h 6 44 (by kernel_rfl) rfl
     refine V.call en77 (V.args2 (V.ev_tmp rfl a44) (V.ed h 7 45 rfl)) (Calls.mono (timesS k6_0 h.g.1.2.2.2.2.2.1 (by rw [p6_0]; exact ((Q.Sz.cap g_.b0 g_.b1).mono (by decide))) (by rw [hv]; exact ((wsum_drop_sz gy h20y i).mono (by decide))) (by rw [p6_0]; exact (by rw [hv]; exact ((Q.Sz.cap g_.b0 g_.b1).mul (wsum_drop_sz gy h20y i)).mono (by decide)))) ?_)
     rintro e W' ⟨z108, rfl, k109, e110, hb⟩
     exact ⟨_, rfl, ⟨z108, rfl, k109, e110.trans (by rw [p6_0])⟩, hb⟩
    ·refine V.s2 rfl fun f W h => ?_
     obtain ⟨z102, a42, k4_0, p4_0⟩ := V.dp h 4 42 (by kernel_rfl) rfl
     obtain ⟨z108, a46, k8_0, p8_0⟩ := V.dp h 8 46 (by kernel_rfl) rfl
     refine V.call en19 (V.args2 (V.ev_tmp rfl a42) (V.ev_tmp rfl a46)) (Calls.mono (Cmp_s k4_0 k8_0 (by rw [p4_0]; exact (((Q.Sz.top ha1).mul g_.s).mono (by decide))) (by rw [p8_0]; exact (by rw [hv]; exact ((Q.Sz.cap g_.b0 g_.b1).mul (wsum_drop_sz gy h20y i)).mono (by decide)))) ?_)
     rintro e W' ⟨e111, hb⟩
     rw [p4_0, p8_0] at e111
     subst e111
     exact ⟨_, rfl, rfl, hb⟩
    ·exact V.z1 rfl fun h => V.xb (V.ed h 9 47 rfl) rfl
   intro f112 W113 e114
   clear r70 r71 r72 r73 r74 r75 r76 r77 fy bg87 r99 bg95
   obtain ⟨⟨r70, r71, r72, r73, r74, r75, r76, r77, fy, bg87, r99, bg95⟩, z_⟩ := e114.g
   obtain ⟨s0, s4, s6, s9, s29, s30, s31, s11, s12⟩ := V.e9 e114 s0 s4 s6 s9 s29 s30 s31 s11 s12
   have s48 := V.es e114 10 48 rfl
   clear e114 z_
   refine V.t_done rfl (V.nx ?_)
   cases hc115 : (decide ((Q.cmp (((((max b 0) : Int) : Rat) : Rat) * y.c.w.q) (((y.c.cap : Int) : Rat) * wt.q)) < 0))
   ·have s48_ : f112 48 = .bool false := s48.trans (by rw [hc115])
    refine V.cond_f (V.ev_tmp rfl s48_) ?_
    have hc2 := hc115
    rw [hv] at hc2
    refine V.skip ?_
    refine V.nx (V.seq ?_)
    clear r99 bg95
    refine V.reg 6 [V.E (.int .i64 b), V.E (Vp g87 0), V.E (Vp g87 5), V.E (.int .i64 y.c.cap), V.E (.int .i64 (b - y.c.cap)), V.E (.int .i64 (b - y.c.cap))] [] (V.i r70 (V.i r71 (V.i r72 (V.i r73 (V.i r74 (V.i r75 (V.i r76 (V.i r77 (V.i fy bg87))))))))) ?_ ?_
    ·refine V.a6 ?_ ?_ ?_ ?_ ?_ ?_
     ·exact V.mo rfl 0 s0
     ·exact V.z1 rfl fun h => V.xa (V.eo h 11 s11)
     ·exact V.z1 rfl fun h => V.xa (V.ed h 1 53 rfl)
     ·exact V.z1 rfl fun h => V.xl (V.ed h 2 54 rfl) (V.lo h.g.1.2.2.2.2.2.2.2.2.2 rfl)
     ·refine V.s1 rfl fun f W h => ?_
      have hw116 : IntKind.i64.wrap (b - y.c.cap) = b - y.c.cap := by exact IntWalk.i64_in _ (by omega)
      exact V.xb (V.ed h 0 52 rfl) (V.ed h 3 55 rfl) ((by kernel_rfl : _ = Result.ok (.int .i64 (IntKind.i64.wrap (b - y.c.cap))) _).trans (by rw [hw116]))
     ·exact V.se rfl 4 56 rfl
    intro f117 W118 e119
    clear r70 r71 r72 r73 r74 r75 r76 r77 fy bg87
    obtain ⟨⟨r70, r71, r72, r73, r74, r75, r76, r77, fy, bg87⟩, z_⟩ := e119.g
    obtain ⟨s4, s6, s9, s29, s30, s31, s11⟩ := V.e7 e119 s4 s6 s9 s29 s30 s31 s11
    have s0 := V.es e119 5 0 rfl
    clear e119 z_
    refine V.t_done rfl (V.nx (V.seq ?_))
    refine V.reg 5 [V.E (wt.v), V.E (Vp g87 0), V.E (Vp g87 1), V.E (y.c.w.v), (fun v W => ∃ z120 : Fr, v = z120.v ∧ Fr.ok W z120 ∧ (z120.q = (wt.q - y.c.w.q)))] [] (V.i r70 (V.i r71 (V.i r72 (V.i r73 (V.i r74 (V.i r75 (V.i r76 (V.i r77 (V.i fy bg87))))))))) ?_ ?_
    ·refine V.a5 ?_ ?_ ?_ ?_ ?_
     ·exact V.z1 rfl fun h => V.xl (V.eo h 6 s6) (V.lr h.g.1.2.2.2.2.1 Tryz.underlying39)
     ·exact V.z1 rfl fun h => V.xa (V.eo h 11 s11)
     ·exact V.z1 rfl fun h => V.xa (V.ed h 1 58 rfl)
     ·exact V.z1 rfl fun h => V.xl (V.ed h 2 59 rfl) (V.ld_mid (xs := [.bool (Q.neg y.c.w.q), Vs y.c.w.A (Q.m y.c.w.q) y.c.w.c, .bool false, Vs y.c.w.A' y.c.w.q.den y.c.w.c']) h.g.1.2.2.2.2.2.2.2.2.2 (by intro j hj; match j, hj with | 0, _ => rfl | 1, _ => rfl | 2, _ => rfl | 3, _ => rfl) Tryz.underlying39)
     ·refine V.s2 rfl fun f W h => ?_
      refine V.call en44 (V.args2 (V.ed h 0 57 rfl) (V.ed h 3 60 rfl)) (Calls.mono (minus_s h.g.1.2.2.2.2.2.1 h.g.1.2.2.2.2.2.2.2.2.1 (by rw [hv]; exact ((wsum_drop_sz gy h20y i).mono (by decide))) (g_.s.mono (by decide)) (by rw [hv, wsum_drop ey]; exact ((wsum_drop_sz gy h20y (i + 1)).mono (by decide)))) ?_)
      rintro e W' ⟨z120, rfl, k121, e122, hb⟩
      exact ⟨_, rfl, ⟨z120, rfl, k121, e122⟩, hb⟩
    intro f123 W124 e125
    clear r70 r71 r72 r73 r74 r75 r76 r77 fy bg87
    obtain ⟨⟨r70, r71, r72, r73, r74, r75, r76, r77, fy, bg87⟩, z_⟩ := e125.g
    obtain ⟨s4, s6, s9, s29, s30, s31, s11, s0⟩ := V.e8 e125 s4 s6 s9 s29 s30 s31 s11 s0
    obtain ⟨z120, s61, r126, n127⟩ := V.eq e125 4 61 rfl
    clear e125 z_
    refine V.tsr (k := 5) rfl s6 s61 r74 fun W128 hs b' => ?_
    replace r70 := hs.bel r70 mg30
    replace r71 := hs.ls r71 q_r20_g30
    replace r72 := (fun x_0 hx_0 => hs.fr (r72 x_0 hx_0))
    replace r73 := hs.blk r73 q1_30
    replace r75 := hs.fr r75
    replace r76 := hs.blk r76 (Ne.symm q30_57)
    replace r77 := hs.fr r77
    replace fy := hs.fr fy
    replace bg87 := hs.blk bg87 (Ne.symm q30_87)
    replace r126 := hs.fr r126
    replace r74 := b'
    clear hs b'
    refine V.t_done rfl (V.nx ?_)
    refine V.reg 2 [V.E (y.v), (fun v W => ∃ z129 : Fr, v = z129.v ∧ Fr.ok W z129 ∧ (z129.q = (((y.c.cap : Int) : Rat) / y.c.w.q)))] [] (V.i r70 (V.i r71 (V.i r72 (V.i r73 (V.i r74 (V.i r75 (V.i r76 (V.i r77 (V.i fy (V.i bg87 r126)))))))))) ?_ ?_
    ·refine V.a2 ?_ ?_
     ·exact V.z1 rfl fun h => V.xl (V.eo h 11 s11) (V.lr h.g.1.2.2.2.2.2.2.2.2.2.1 Tryz.underlying72)
     ·refine V.s2 rfl fun f W h => ?_
      refine V.call en102 (V.args1 (V.ed h 0 62 rfl)) (Calls.mono (full_s h.g.1.2.2.2.2.2.2.2.2.1 g_.b0 g_.b1 (g_.s.mono (by decide)) ((Q.Sz.cap g_.b0 g_.b1).div g_.s (Rat.ne_of_pos g_.p) |>.mono (by decide)) (Rat.ne_of_pos g_.p)) ?_)
      rintro e W' ⟨z129, rfl, k130, e131, hb⟩
      exact ⟨_, rfl, ⟨z129, rfl, k130, e131⟩, hb⟩
    intro f132 W133 e134
    clear r70 r71 r72 r73 r74 r75 r76 r77 fy bg87 r126
    obtain ⟨⟨r70, r71, r72, r73, r74, r75, r76, r77, fy, bg87, r126⟩, z_⟩ := e134.g
    obtain ⟨s4, s6, s9, s29, s30, s31, s0⟩ := V.e7 e134 s4 s6 s9 s29 s30 s31 s0
    obtain ⟨z129, s63, r135, n136⟩ := V.eq e134 1 63 rfl
    clear e134 z_
    refine V.tsr (k := 2) rfl s9 s63 r76 fun W137 hs b' => ?_
    replace r70 := hs.bel r70 mg57
    replace r71 := hs.ls r71 q_r44_g57
    replace r72 := (fun x_0 hx_0 => hs.fr (r72 x_0 hx_0))
    replace r73 := hs.blk r73 q1_57
    replace r74 := hs.blk r74 q30_57
    replace r75 := hs.fr r75
    replace r77 := hs.fr r77
    replace fy := hs.fr fy
    replace bg87 := hs.blk bg87 (Ne.symm q57_87)
    replace r126 := hs.fr r126
    replace r135 := hs.fr r135
    replace r76 := b'
    clear hs b'
    refine V.t_done rfl (V.bn (V.nx ?_))
    clear bg87
    refine V.reg 2 [V.E (.int .i64 ((i : Int) + 1)), V.E (.int .i64 ((i : Int) + 1))] [] (V.i r70 (V.i r71 (V.i r72 (V.i r73 (V.i r74 (V.i r75 (V.i r76 (V.i r77 (V.i fy (V.i r126 r135)))))))))) ?_ ?_
    ·refine V.a2 ?_ ?_
     ·refine V.s1 rfl fun f W h => ?_
      have hw138 : IntKind.i64.wrap ((i : Int) + 1) = (i : Int) + 1 := by exact IntWalk.i64_in _ (by omega)
      exact V.xb (V.eo h 31 s31) rfl ((by kernel_rfl : _ = Result.ok (.int .i64 (IntKind.i64.wrap ((i : Int) + 1))) _).trans (by rw [hw138]))
     ·exact V.me rfl 0 64 rfl
    intro f139 W140 e141
    clear r70 r71 r72 r73 r74 r75 r76 r77 fy r126 r135
    obtain ⟨⟨r70, r71, r72, r73, r74, r75, r76, r77, fy, r126, r135⟩, z_⟩ := e141.g
    obtain ⟨s4, s6, s9, s29, s30, s0⟩ := V.e6 e141 s4 s6 s9 s29 s30 s0
    have s31 := V.es e141 1 31 rfl
    clear e141 z_
    refine V.t_done rfl ?_
    refine V.handed (ys16.length - (i + 1)) (by have := hk78; omega) ⟨(i + 1), (b - y.c.cap), z120, z129, ⟨rfl, by omega, by have := g_.b0; omega, by have := g_.b1; omega, by rw [n127, hv, wsum_drop ey], by rw [n136, hlev, lev_step ey hc2]⟩, ⟨s0, s4, s6, s9, s29, s30, (s31.trans (by simp))⟩, ⟨r70, r71, r72, r73, r74, r126, r76, r135⟩⟩
   ·have s48_ : f112 48 = .bool true := s48.trans (by rw [hc115])
    refine V.cond_t (V.ev_tmp rfl s48_) ?_
    have hc2 := hc115
    rw [hv] at hc2
    refine V.seq ?_
    refine V.reg 3 [V.E (z92.v), V.E (wt.v), (fun v W => ∃ z142 : Fr, v = z142.v ∧ Fr.ok W z142 ∧ (z142.q = (((((max b 0) : Int) : Rat) : Rat) / wt.q)))] [] (V.i r70 (V.i r71 (V.i r72 (V.i r73 (V.i r74 (V.i r75 (V.i r76 (V.i r77 (V.i fy (V.i bg87 (V.i r99 bg95))))))))))) ?_ ?_
    ·refine V.a3 ?_ ?_ ?_
     ·exact V.z1 rfl fun h => V.xl (V.eo h 12 s12) (V.lr h.g.1.2.2.2.2.2.2.2.2.2.2.2 Tryz.underlying39)
     ·exact V.z1 rfl fun h => V.xl (V.eo h 6 s6) (V.lr h.g.1.2.2.2.2.1 Tryz.underlying39)
     ·refine V.s2 rfl fun f W h => ?_
      refine V.call en101 (V.args2 (V.ed h 0 49 rfl) (V.ed h 1 50 rfl)) (Calls.mono (over_s h.g.1.2.2.2.2.2.2.2.2.2.2.1 h.g.1.2.2.2.2.2.1 (by rw [n100]; exact ((Q.Sz.top ha1).mono (by decide))) (by rw [hv]; exact ((wsum_drop_sz gy h20y i).mono (by decide))) (by rw [n100]; exact (by rw [hv]; exact ((Q.Sz.top ha1).div (wsum_drop_sz gy h20y i) (Rat.ne_of_pos (wsum_pos gy ey))).mono (by decide))) (by rw [hv]; exact Rat.ne_of_pos (wsum_pos gy ey))) ?_)
      rintro e W' ⟨z142, rfl, k143, e144, hb⟩
      exact ⟨_, rfl, ⟨z142, rfl, k143, e144.trans (by rw [n100])⟩, hb⟩
    intro f145 W146 e147
    clear r70 r71 r72 r73 r74 r75 r76 r77 fy bg87 r99 bg95
    obtain ⟨⟨r70, r71, r72, r73, r74, r75, r76, r77, fy, bg87, r99, bg95⟩, z_⟩ := e147.g
    obtain ⟨s0, s4, s6, s9, s29, s30, s31, s11⟩ := V.e8 e147 s0 s4 s6 s9 s29 s30 s31 s11
    obtain ⟨z142, s51, r148, n149⟩ := V.eq e147 2 51 rfl
    clear e147 z_
    refine V.tsr (k := 3) rfl s4 s51 r73 fun W150 hs b' => ?_
    replace r70 := hs.bel r70 mg1
    replace r71 := hs.ls r71 q26
    replace r72 := (fun x_0 hx_0 => hs.fr (r72 x_0 hx_0))
    replace r74 := hs.blk r74 (Ne.symm q1_30)
    replace r75 := hs.fr r75
    replace r76 := hs.blk r76 (Ne.symm q1_57)
    replace r77 := hs.fr r77
    replace fy := hs.fr fy
    replace bg87 := hs.blk bg87 (Ne.symm q1_87)
    replace r99 := hs.fr r99
    replace bg95 := hs.blk bg95 (Ne.symm q1_95)
    replace r148 := hs.fr r148
    replace r73 := b'
    clear hs b'
    refine V.t_done rfl (V.nx (V.ret (V.tr (V.br (V.tr (V.tr (V.br (V.tr ?_))))))))
    refine V.leave_any (.inl rfl) (V.res_cell rfl rfl s4 (V.lr r73 Tryz.underlying39 rfl (by kernel_rfl))) ?_
    exact ⟨ys16, n22, n23, z142, rfl, r148, (by rw [n149, hv]; exact (hlev.trans (lev_stop ey hc2)).symm), r70⟩
 ·have s19_ : f50 19 = .bool true := s19.trans (by rw [hc53])
  refine V.cond_t (V.ev_tmp rfl s19_) ?_
  have hi : i < ys16.length := by have := of_decide_eq_true hc53; omega
  obtain ⟨y, my, ey, ey_⟩ := V.at_map It.cells (l := ys16) (i := i) hi
  have g_ := gy y my
  have gb0 := g_.b0
  have gb1 := g_.b1
  have fy := r45 y my
  refine V.skip ?_
  refine V.nx (V.seq (V.block (V.seq ?_)))
  refine V.reg 3 [V.E (.pointer (some ((adr A14).add (i * 7 + 0)))), V.E (y.v), V.Nb W51 72 #[.int .i64 0, .bool false, .slice none 0 0, .bool false, .slice none 0 0, .int .i64 0, .int .i64 0]] [2] (V.i r43 (V.i r44 (V.i r45 (V.i r46 (V.i r47 (V.i r48 fy)))))) ?_ ?_
  ·refine V.a3 ?_ ?_ ?_
   ·exact V.z1 rfl fun h => V.xi (i := i) h.g.1.2.1 ey_ (V.eo h 16 s16) (V.eo h 18 s18)
   ·exact V.z1 rfl fun h => V.xl (V.ed h 0 20 rfl) (V.ld_lsE (i := i) (o := 0) (cs := [.int .i64 y.c.id, .bool (Q.neg y.c.w.q), Vs y.c.w.A (Q.m y.c.w.q) y.c.w.c, .bool false, Vs y.c.w.A' y.c.w.q.den y.c.w.c', .int .i64 y.c.cap, .int .i64 y.at_]) h.g.1.2.1 ey_ Tryz.underlying72)
   ·exact V.sn rfl fun f W h => V.x_alloc
  have o_g1 := r46.lt
  have o_g30 := r47.lt
  have o_bel := r43.size
  have ob_r44 := r44.blt
  intro f152 W153 e154
  clear r43 r44 r45 r46 r47 r48 fy
  obtain ⟨⟨r43, r44, r45, r46, r47, r48, fy⟩, z_⟩ := e154.g
  obtain ⟨s0, s4, s5, s6, s16, s17, s18⟩ := V.e7 e154 s0 s4 s5 s6 s16 s17 s18
  have s21 := V.es e154 1 21 rfl
  obtain ⟨g151, s8, bg151, lg151⟩ := V.eq e154 2 8 rfl
  have mg151 := Nat.le_trans o_bel lg151
  have q1_151 : g1 ≠ g151 := by omega
  have q30_151 : g30 ≠ g151 := by omega
  have q_r44_g151 : 0 < ys16.length → (adr A14).block ≠ g151 := fun h => Nat.ne_of_lt (Nat.lt_of_lt_of_le (ob_r44 h) lg151)
  clear e154 z_
  clear o_bel o_g1 o_g30 ob_r44
  refine V.tsr (k := 3) rfl s8 s21 bg151 fun W155 hs b' => ?_
  replace r43 := hs.bel r43 mg151
  replace r44 := hs.ls r44 q_r44_g151
  replace r45 := (fun x_0 hx_0 => hs.fr (r45 x_0 hx_0))
  replace r46 := hs.blk r46 q1_151
  replace r47 := hs.blk r47 q30_151
  replace r48 := hs.fr r48
  replace fy := hs.fr fy
  replace bg151 := b'
  clear hs b'
  refine V.t_done rfl (V.nx ?_)
  refine V.reg 5 [V.E (u.v), V.E (Vp g151 0), V.E (Vp g151 1), V.E (y.c.w.v), (fun v W => ∃ z156 : Fr, v = z156.v ∧ Fr.ok W z156 ∧ (z156.q = (u.q + y.c.w.q)))] [] (V.i r43 (V.i r44 (V.i r45 (V.i r46 (V.i r47 (V.i r48 (V.i fy bg151))))))) ?_ ?_
  ·refine V.a5 ?_ ?_ ?_ ?_ ?_
   ·exact V.z1 rfl fun h => V.xl (V.eo h 6 s6) (V.lr h.g.1.2.2.2.2.1 Tryz.underlying39)
   ·exact V.z1 rfl fun h => V.xa (V.eo h 8 s8)
   ·exact V.z1 rfl fun h => V.xa (V.ed h 1 23 rfl)
   ·exact V.z1 rfl fun h => V.xl (V.ed h 2 24 rfl) (V.ld_mid (xs := [.bool (Q.neg y.c.w.q), Vs y.c.w.A (Q.m y.c.w.q) y.c.w.c, .bool false, Vs y.c.w.A' y.c.w.q.den y.c.w.c']) h.g.1.2.2.2.2.2.2.2 (by intro j hj; match j, hj with | 0, _ => rfl | 1, _ => rfl | 2, _ => rfl | 3, _ => rfl) Tryz.underlying39)
   ·refine V.s2 rfl fun f W h => ?_
    refine V.call en100 (V.args2 (V.ed h 0 22 rfl) (V.ed h 3 25 rfl)) (Calls.mono (plus_s h.g.1.2.2.2.2.2.1 h.g.1.2.2.2.2.2.2.1 (by rw [hu]; exact (wsum_take_sz gy h20y i).mono (by decide)) (g_.s.mono (by decide)) (by rw [hu]; exact ((wsum_take_sz gy h20y i).add g_.s).mono (by decide))) ?_)
    rintro e W' ⟨z156, rfl, k157, e158, hb⟩
    exact ⟨_, rfl, ⟨z156, rfl, k157, e158⟩, hb⟩
  intro f159 W160 e161
  clear r43 r44 r45 r46 r47 r48 fy bg151
  obtain ⟨⟨r43, r44, r45, r46, r47, r48, fy, bg151⟩, z_⟩ := e161.g
  obtain ⟨s0, s4, s5, s6, s16, s17, s18⟩ := V.e7 e161 s0 s4 s5 s6 s16 s17 s18
  obtain ⟨z156, s26, r162, n163⟩ := V.eq e161 4 26 rfl
  clear e161 z_
  refine V.tsr (k := 5) rfl s6 s26 r47 fun W164 hs b' => ?_
  replace r43 := hs.bel r43 mg30
  replace r44 := hs.ls r44 q_r20_g30
  replace r45 := (fun x_0 hx_0 => hs.fr (r45 x_0 hx_0))
  replace r46 := hs.blk r46 q1_30
  replace r48 := hs.fr r48
  replace fy := hs.fr fy
  replace bg151 := hs.blk bg151 (Ne.symm q30_151)
  replace r162 := hs.fr r162
  replace r47 := b'
  clear hs b'
  refine V.t_done rfl (V.bn (V.nx ?_))
  clear bg151
  refine V.reg 2 [V.E (.int .i64 ((i : Int) + 1)), V.E (.int .i64 ((i : Int) + 1))] [] (V.i r43 (V.i r44 (V.i r45 (V.i r46 (V.i r47 (V.i r48 (V.i fy r162))))))) ?_ ?_
  ·refine V.a2 ?_ ?_
   ·refine V.s1 rfl fun f W h => ?_
    have hw165 : IntKind.i64.wrap ((i : Int) + 1) = (i : Int) + 1 := by exact IntWalk.i64_in _ (by omega)
    exact V.xb (V.eo h 18 s18) rfl ((by kernel_rfl : _ = Result.ok (.int .i64 (IntKind.i64.wrap ((i : Int) + 1))) _).trans (by rw [hw165]))
   ·exact V.me rfl 0 27 rfl
  intro f166 W167 e168
  clear r43 r44 r45 r46 r47 r48 fy r162
  obtain ⟨⟨r43, r44, r45, r46, r47, r48, fy, r162⟩, z_⟩ := e168.g
  obtain ⟨s0, s4, s5, s6, s16, s17⟩ := V.e6 e168 s0 s4 s5 s6 s16 s17
  have s18 := V.es e168 1 18 rfl
  clear e168 z_
  refine V.t_done rfl ?_
  refine V.handed (ys16.length - (i + 1)) (by have := hk49; omega) ⟨(i + 1), z156, ⟨rfl, by omega, by rw [n163, wsum_take ey, hu]⟩, ⟨s0, s4, s5, s6, s16, s17, (s18.trans (by simp))⟩, ⟨r43, r44, r45, r46, r47, r162⟩⟩
theorem en58 : En 58 := en_ Tryz.func58
theorem en82 : En 82 := en_ Tryz.func82
def LevOf (a : Int) (l : List Cl) (t : Rat) : Prop := ∃ ys : List It, (ys.map It.c).Perm (l.filter nz) ∧ Ins.Upto ltI ys ys.length ∧ t = lev a 0 ys
theorem level_t {A : Option Addr} {c : Nat} {l : List Cl} {w : World} (hl : Ls w 6 A l.length c (l.map Cl.cells)) (hfr : ∀ x ∈ l, Fr.ok w x.w) (hgood : ∀ x ∈ l, x.good) (h20 : l.length < 20) {a : Int} (h0 : 0 ≤ a) (h1 : a ≤ 1099511627776) :
    Calls Tryz.prog 58 #[.int .i64 a, .slice A l.length c] w fun e w' => ∃ t, LevOf a l t ∧ FrOut w t e w' :=
  Calls.mono (level_s hl hfr hgood h20 h0 h1) fun _ _ ⟨ys, h1, h2, h3⟩ => ⟨_, ⟨ys, h1, h2, rfl⟩, h3⟩
theorem lev_sz {ys : List It} : ∀ {a : Int} {o : Rat}, a ≤ 1099511627776 → Q.Sz 99 o → (∀ y ∈ ys, y.good) → ys.length < 20 → Q.Sz 99 (lev a o ys) := by
  induction ys with
  | nil => intro a o _ h _ _; exact h
  | cons x r ih =>
    intro a o ha ho hg hl
    have gx := hg x (by simp)
    unfold lev
    split
    · have hp : 0 < wsum (x :: r) := wsum_pos (l := x :: r) (i := 0) hg rfl
      have hs : Q.Sz 96 (wsum (x :: r)) := wsum_drop_sz hg hl 0
      exact (Q.Sz.top ha).div hs (Rat.ne_of_pos hp)
    · exact ih (by have := gx.b0; omega) (((Q.Sz.cap gx.b0 gx.b1).div gx.s (Rat.ne_of_pos gx.p)).mono (by decide)) (fun y hy => hg y (by simp [hy])) (by simp at hl; omega)
theorem LevOf.good {l : List Cl} {ys : List It} (h : (ys.map It.c).Perm (l.filter nz)) (hg : ∀ x ∈ l, x.good) : ∀ y ∈ ys, y.good := fun y hy => by
  have h1 : y.c ∈ l.filter nz := h.mem_iff.1 (List.mem_map_of_mem hy)
  exact good_it (hg _ (List.mem_filter.1 h1).1) (List.mem_filter.1 h1).2
theorem LevOf.len {l : List Cl} {ys : List It} (h : (ys.map It.c).Perm (l.filter nz)) : ys.length ≤ l.length := by
  have h1 := h.length_eq; have h2 := List.length_filter_le nz l; rw [List.length_map] at h1; omega
theorem LevOf.sz {a : Int} {l : List Cl} {t : Rat} (h : LevOf a l t) (ha : a ≤ 1099511627776) (hg : ∀ x ∈ l, x.good) (hl : l.length < 20) : Q.Sz 99 t := by
  obtain ⟨ys, h1, h2, rfl⟩ := h
  exact lev_sz ha (Q.Sz.zero.mono (by decide)) (LevOf.good h1 hg) (Nat.lt_of_le_of_lt (LevOf.len h1) hl)
abbrev Cl.raw (x : Cl) : Rc := ⟨x.id, Q.neg x.w.q, x.w.A, x.w.c, Lb.limbs (Q.m x.w.q), false, x.w.A', x.w.c', Lb.limbs x.w.q.den, x.cap⟩
structure ValidC (l : List Cl) : Prop where
  n : l.length ≤ 32
  g : ∀ x ∈ l, x.good
  s : ∀ j a b, l[j]? = some a → l[j + 1]? = some b → a.id < b.id
theorem raw_right {x : Cl} (h : x.good) : rightB x.raw = true := by
  have hn : Q.neg x.w.q = false := by have := h.p; unfold Q.neg; rw [decide_eq_false_iff_not, Int.not_lt]; exact Rat.num_nonneg.2 this
  have h1 := Q.len_le h.s.n
  have h2 := Q.len_le h.s.d
  unfold rightB
  have hq := q_validF (h.s.mono (l := 256) (by decide))
  rw [hn] at hq
  simp only [hn, hq, Bool.and_eq_true, decide_eq_true_eq, Bool.not_false, and_true]
  have := h.b0; have := h.b1
  omega
theorem raw_valid {l : List Cl} (h : ValidC l) : validL (l.map Cl.raw) = true := by
  rw [validL_iff]
  refine ⟨by rw [List.length_map]; exact h.n, fun r hr => ?_, fun j a b ha hb => ?_⟩
  · obtain ⟨x, hx, rfl⟩ := List.mem_map.1 hr; exact raw_right (h.g x hx)
  · rw [List.getElem?_map] at ha hb
    obtain ⟨x, hx, rfl⟩ := Option.map_eq_some_iff.1 ha
    obtain ⟨y, hy, rfl⟩ := Option.map_eq_some_iff.1 hb
    exact h.s j x y hx hy
theorem raw_ls {A : Option Addr} {c : Nat} {l : List Cl} {w : World} (hl : Ls w 6 A l.length c (l.map Cl.cells)) : Ls w 6 A (l.map Cl.raw).length c ((l.map Cl.raw).map Rc.cells) := by
  rw [List.length_map, List.map_map]; exact hl
theorem raw_ok {l : List Cl} {w : World} (h : ∀ x ∈ l, Fr.ok w x.w) : ∀ r ∈ l.map Cl.raw, Rc.ok w r := fun r hr => by
  obtain ⟨x, hx, rfl⟩ := List.mem_map.1 hr; exact ⟨(h x hx).n, (h x hx).d⟩
theorem Valid_t {A : Option Addr} {c : Nat} {l : List Cl} {w : World} (hl : Ls w 6 A l.length c (l.map Cl.cells)) (hfr : ∀ x ∈ l, Fr.ok w x.w) (hV : ValidC l) :
    Calls Tryz.prog 30 #[.slice A l.length c] w fun e w' => e = .returned (.bool true) ∧ Below w.heap.size w w' := by
  have := Valid_s (raw_ls hl) (raw_ok hfr)
  rw [raw_valid hV, List.length_map] at this
  exact this
theorem allowed_t {A : Option Addr} {c : Nat} {l : List Cl} {w : World} (hl : Ls w 6 A l.length c (l.map Cl.cells)) (hfr : ∀ x ∈ l, Fr.ok w x.w) (hV : ValidC l) {a : Int} (h0 : 0 ≤ a) (h1 : a ≤ 1099511627776) :
    Calls Tryz.prog 40 #[.int .i64 a, .slice A l.length c] w fun e w' => e = .returned (.bool true) ∧ Below w.heap.size w w' := by
  have := allowed_s (a := a) (raw_ls hl) (raw_ok hfr)
  unfold allowedB at this
  rw [raw_valid hV, List.length_map] at this
  simpa [h0, h1] using this
theorem right_typed {r : Rc} (o1 : Lb.Ok r.x) (o2 : Lb.Ok r.x') (h : rightB r = true) : ∃ x : Cl, r = x.raw ∧ x.good := by
  unfold rightB at h
  simp only [Bool.and_eq_true, decide_eq_true_eq, Bool.not_eq_true'] at h
  obtain ⟨⟨⟨⟨⟨a1, a2⟩, a3⟩, a4⟩, a5⟩, a6⟩ := h
  obtain ⟨q, e1, e2, e3, e4⟩ := validF_q o1 o2 a6
  refine ⟨⟨r.id, ⟨r.A, r.c, r.A', r.c', q⟩, r.cap⟩, ?_, a1, a2, ⟨Q.lt_len (by rw [← e2]; omega), Q.lt_len (by rw [← e4]; omega)⟩, ?_⟩
  · cases r; simp_all
  · rw [a5] at e1
    have : ¬ q.num < 0 := by have := e1.symm; unfold Q.neg at this; exact of_decide_eq_false this
    exact Rat.num_nonneg.1 (by show 0 ≤ q.num; omega)
theorem valid_typed {l : List Rc} {w : World} (hfr : ∀ r ∈ l, Rc.ok w r) (h : validL l = true) : ∃ k : List Cl, l = k.map Cl.raw ∧ ValidC k := by
  rw [validL_iff] at h
  have hex : ∀ l : List Rc, (∀ r ∈ l, Rc.ok w r) → (∀ r ∈ l, rightB r = true) → ∃ k : List Cl, l = k.map Cl.raw ∧ ∀ x ∈ k, x.good := by
    intro l
    induction l with
    | nil => intro _ _; exact ⟨[], rfl, by simp⟩
    | cons r l ih =>
      intro h1 h2
      obtain ⟨x, e, hx⟩ := right_typed (h1 r (by simp)).n.ok (h1 r (by simp)).d.ok (h2 r (by simp))
      obtain ⟨k, e2, hk⟩ := ih (fun z hz => h1 z (by simp [hz])) (fun z hz => h2 z (by simp [hz]))
      refine ⟨x :: k, by rw [e, e2]; rfl, fun z hz => ?_⟩
      rcases List.mem_cons.1 hz with rfl | hz
      · exact hx
      · exact hk z hz
  obtain ⟨k, e, hk⟩ := hex l hfr h.r
  subst e
  refine ⟨k, rfl, by have := h.n; rwa [List.length_map] at this, hk, fun j a b ha hb => ?_⟩
  exact h.s j a.raw b.raw (by rw [List.getElem?_map, ha]; rfl) (by rw [List.getElem?_map, hb]; rfl)
structure ExP (l : List Cl) (t : Rat) (xs : List Fr) : Prop where
  len : xs.length = l.length
  q : ∀ (j : Nat) (x : Cl) (y : Fr), l[j]? = some x → xs[j]? = some y → y.q = min ((x.cap : Int) : Rat) (t * x.w.q)
abbrev zF : List Value := [.bool false, .slice none 0 0, .bool false, .slice none 0 0]
theorem fill_set {acc : List Fr} {n i : Nat} {x : Fr} (h : acc.length = i) (hi : i < n) : ((acc.map Fr.cells) ++ List.replicate (n - i) zF).set i (Fr.cells x) = ((acc ++ [x]).map Fr.cells) ++ List.replicate (n - (i + 1)) zF := by
  subst h
  rw [List.set_append_right _ _ (by simp), List.length_map, Nat.sub_self, show n - acc.length = (n - (acc.length + 1)) + 1 by omega, List.replicate_succ, List.set_cons_zero, List.map_append, List.append_assoc]
  rfl
theorem fill_get {acc : List Fr} {n i : Nat} (h : acc.length = i) (hi : i < n) : ((acc.map Fr.cells) ++ List.replicate (n - i) zF)[i]? = some zF := by
  subst h
  rw [List.getElem?_append_right (by simp), List.length_map, Nat.sub_self, List.getElem?_replicate, if_pos (by omega)]
theorem nl_fill (acc : List Fr) (n : Nat) : ((((acc.map Fr.cells) ++ List.replicate n zF).flatten ++ []).toArray).all noLimb = true := by
  rw [← Array.all_toList, List.toList_toArray, List.append_nil, List.flatten_append, List.all_append]
  have h1 := nl_frs acc [] rfl
  rw [← Array.all_toList, List.toList_toArray, List.append_nil] at h1
  rw [h1, Bool.true_and]
  induction n with
  | zero => rfl
  | succ n ih => rw [List.replicate_succ, List.flatten_cons, List.all_append, ih]; rfl
theorem ExP.snoc {l : List Cl} {t : Rat} {acc : List Fr} {i : Nat} {x : Cl} {z : Fr} (h : ∀ (j : Nat) (x : Cl) (y : Fr), l[j]? = some x → acc[j]? = some y → y.q = min ((x.cap : Int) : Rat) (t * x.w.q)) (ha : acc.length = i) (hx : l[i]? = some x) (hz : z.q = min ((x.cap : Int) : Rat) (t * x.w.q)) :
    ∀ (j : Nat) (x : Cl) (y : Fr), l[j]? = some x → (acc ++ [z])[j]? = some y → y.q = min ((x.cap : Int) : Rat) (t * x.w.q) := by
  intro j x' y h1 h2
  by_cases hj : j < acc.length
  · rw [List.getElem?_append_left hj] at h2; exact h j x' y h1 h2
  · have : j = i := by have := (List.getElem?_eq_some_iff.1 h2).1; simp at this; omega
    subst this
    rw [List.getElem?_append_right (by omega), ha, Nat.sub_self] at h2
    rw [hx] at h1; cases h1
    have : z = y := by simpa using h2
    rw [← this]; exact hz
theorem all_snoc {p : Fr → Prop} {acc : List Fr} {z : Fr} (h : ∀ x ∈ acc, p x) (hz : p z) : ∀ x ∈ acc ++ [z], p x := fun x hx => by
  rcases List.mem_append.1 hx with hx | hx
  · exact h x hx
  · have : x = z := by simpa using hx
    rw [this]; exact hz
theorem exact_s {A : Option Addr} {c : Nat} {l : List Cl} {w : World} (hl : Ls w 6 A l.length c (l.map Cl.cells)) (hfr : ∀ x ∈ l, Fr.ok w x.w) (hgood : ∀ x ∈ l, x.good) (h20 : l.length < 20) {a : Int} (h0 : 0 ≤ a) (h1 : a ≤ 1099511627776) :
    Calls Tryz.prog 42 #[.int .i64 a, .slice A l.length c] w fun e w' => ∃ (g : Nat) (xs : List Fr) (t : Rat), e = .returned (.slice (some ⟨g, 0, none⟩) l.length l.length) ∧ LevOf a l t ∧ ExP l t xs ∧ Own w' g 39 4 (xs.map Fr.cells) [] ∧ (∀ x ∈ xs, Fr.ok w' x) ∧ w.heap.size ≤ g ∧ Below w.heap.size w w' := by
 refine V.nt Tryz.func42 rfl rfl fun f0 hf => ?_
 have s0 : f0 0 = .int .i64 a := hf 0 (by simp)
 have s1 : f0 1 = .slice A l.length c := hf 1 (by simp)
 clear hf
 have hb := Below.refl w.heap.size w
 have w_hl := hl
 have w_hfr := hfr
 refine V.seq ?_
 refine V.reg 1 [V.E (.slice none 0 0)] [] (V.i hl (V.i hfr hb)) ?_ ?_
 ·refine V.ac ?_ V.an
  ·exact V.z1 rfl fun h => V.xs rfl
 intro f1 W2 e3
 clear hl hfr hb
 obtain ⟨⟨hl, hfr, hb⟩, z_⟩ := e3.g
 obtain ⟨s0, s1⟩ := V.e2 e3 s0 s1
 have s4 := V.es e3 0 4 rfl
 clear e3 z_
 refine V.t_done rfl (V.nx (V.seq ?_))
 refine V.reg 4 [V.E (.int .i64 a), V.E (.slice A l.length c), (fun v W => ∃ z4 : Fr, v = z4.v ∧ Fr.ok W z4 ∧ (LevOf a l z4.q)), V.Nb W2 39 #[.bool false, .slice none 0 0, .bool false, .slice none 0 0]] [3] (V.i hl (V.i hfr hb)) ?_ ?_
 ·refine V.a4 ?_ ?_ ?_ ?_
  ·exact V.mo rfl 0 s0
  ·exact V.mo rfl 1 s1
  ·refine V.s2 rfl fun f W h => ?_
   refine V.call en58 (V.args2 (V.ed h 0 9 rfl) (V.ed h 1 10 rfl)) (Calls.mono (level_t h.g.1.1 h.g.1.2.1 hgood h20 h0 h1) ?_)
   rintro e W' ⟨t7, h8, z4, rfl, k5, e6, hb⟩
   exact ⟨_, rfl, ⟨z4, rfl, k5, by rw [e6]; exact h8⟩, hb⟩
  ·exact V.sn rfl fun f W h => V.x_alloc
 have o_bel := hb.size
 have ob_hl := hl.blt
 intro f10 W11 e12
 clear hl hfr hb
 obtain ⟨⟨hl, hfr, hb⟩, z_⟩ := e12.g
 obtain ⟨s0, s1, s4⟩ := V.e3 e12 s0 s1 s4
 obtain ⟨z4, s11, r13, n14⟩ := V.eq e12 2 11 rfl
 obtain ⟨g9, s5, bg9, lg9⟩ := V.eq e12 3 5 rfl
 have mg9 := Nat.le_trans o_bel lg9
 have q_hl_g9 : 0 < l.length → (adr A).block ≠ g9 := fun h => Nat.ne_of_lt (Nat.lt_of_lt_of_le (ob_hl h) lg9)
 clear e12 z_
 clear o_bel ob_hl
 refine V.tsr (k := 4) rfl s5 s11 bg9 fun W15 hs b' => ?_
 replace hl := hs.ls hl q_hl_g9
 replace hfr := (fun x_0 hx_0 => hs.fr (hfr x_0 hx_0))
 replace hb := hs.bel hb mg9
 replace r13 := hs.fr r13
 replace bg9 := b'
 clear hs b'
 refine V.t_done rfl (V.nx (V.seq ?_))
 refine V.reg 4 [V.E (.slice A l.length c), V.E (.int .i64 (l.length : Int)), (fun v W => ∃ g16 : Nat, v = .slice (some ⟨g16, 0, none⟩) l.length l.length ∧ Own W g16 39 4 (List.replicate l.length [.bool false, .slice none 0 0, .bool false, .slice none 0 0]) ([]) ∧ (w.heap.size ≤ g16) ∧ (W15.heap.size ≤ g16)), (fun v W => ∃ g17 : Nat, v = .slice (some ⟨g17, 0, none⟩) l.length l.length ∧ Own W g17 39 4 (List.replicate l.length [.bool false, .slice none 0 0, .bool false, .slice none 0 0]) ([]) ∧ (w.heap.size ≤ g17) ∧ (W15.heap.size ≤ g17))] [] (V.i hl (V.i hfr (V.i hb (V.i r13 bg9)))) ?_ ?_
 ·refine V.a4 ?_ ?_ ?_ ?_
  ·exact V.mo rfl 1 s1
  ·exact V.z1 rfl fun h => V.x_len (V.ed h 0 12 rfl)
  ·refine V.s2 rfl fun f W h => ?_
   exact V.valv (.slice (some ⟨W.heap.size, 0, none⟩) l.length l.length) (V.x_make (k := 4) (z := .agg #[.bool false, .slice none 0 0, .bool false, .slice none 0 0]) (V.ed h 1 13 rfl) rfl (by kernel_rfl) (by omega)) ⟨⟨W.heap.size, rfl, Own.made rfl rfl W, h.g.1.2.2.1.size, h.g.2⟩, (Below.refl _ _).alloc (Nat.le_refl _) _⟩
  ·refine V.s2 rfl fun f W h => ?_
   obtain ⟨g16, a14, k2_0, p2_0, p2_1⟩ := V.dp h 2 14 (by kernel_rfl) rfl
   exact V.v2 (.slice (some ⟨g16, 0, none⟩) l.length l.length) (V.xs (V.ev_tmp rfl a14)) ⟨g16, rfl, k2_0, p2_0, p2_1⟩
 have o_g9 := bg9.lt
 intro f18 W19 e20
 clear hl hfr hb r13 bg9
 obtain ⟨⟨hl, hfr, hb, r13, bg9⟩, z_⟩ := e20.g
 obtain ⟨s0, s1, s4, s5⟩ := V.e4 e20 s0 s1 s4 s5
 obtain ⟨g17, s6, r21, n22, n23⟩ := V.eq e20 3 6 rfl
 have mg17 := n22
 have q24 : 0 < l.length → (adr A).block ≠ g17 := fun h => Nat.ne_of_lt (Nat.lt_of_lt_of_le (w_hl.blt h) n22)
 have q25 : g9 ≠ g17 := Nat.ne_of_lt (Nat.lt_of_lt_of_le o_g9 n23)
 clear e20 z_
 clear o_g9
 refine V.t_done rfl (V.nx (V.seq (V.seq ?_)))
 refine V.reg 3 [V.E (.slice A l.length c), V.E (.int .i64 (l.length : Int)), V.E (.int .i64 0)] [] (V.i hl (V.i hfr (V.i hb (V.i r13 (V.i bg9 r21))))) ?_ ?_
 ·refine V.a3 ?_ ?_ ?_
  ·exact V.mo rfl 1 s1
  ·exact V.z1 rfl fun h => V.x_len (V.ed h 0 15 rfl)
  ·exact V.z1 rfl fun h => V.xm rfl
 intro f26 W27 e28
 clear hl hfr hb r13 bg9 r21
 obtain ⟨⟨hl, hfr, hb, r13, bg9, r21⟩, z_⟩ := e28.g
 obtain ⟨s0, s1, s4, s5, s6⟩ := V.e5 e28 s0 s1 s4 s5 s6
 have s15 := V.es e28 0 15 rfl
 have s16 := V.es e28 1 16 rfl
 have s17 := V.es e28 2 17 rfl
 clear e28 z_
 refine V.t_done rfl (V.nx (V.block ?_))
 have hS := LevOf.sz n14 h1 hgood h20
 have r29 : Own W27 g17 39 4 ((([] : List Fr).map Fr.cells) ++ List.replicate (l.length - 0) zF) [] := r21
 have r30 : ∀ x ∈ ([] : List Fr), Fr.ok W27 x := by simp
 refine V.loop (fun k f W => ∃ i : Nat, ∃ acc : List Fr, (k = l.length - i ∧ (i ≤ l.length) ∧ (acc.length = i) ∧ (∀ (j : Nat) (x : Cl) (y : Fr), l[j]? = some x → acc[j]? = some y → y.q = min ((x.cap : Int) : Rat) (z4.q * x.w.q))) ∧ (f 5 = Vp g9 0 ∧ f 6 = .slice (some ⟨g17, 0, none⟩) l.length l.length ∧ f 15 = .slice A l.length c ∧ f 16 = .int .i64 (l.length : Int) ∧ f 17 = .int .i64 (i : Int)) ∧ (Below w.heap.size w W ∧ Ls W 6 A l.length c (l.map Cl.cells) ∧ (∀ x ∈ l, Fr.ok W x.w) ∧ Blk W g9 39 z4.cs ∧ Fr.ok W z4 ∧ Own W g17 39 4 ((acc.map Fr.cells) ++ List.replicate (l.length - i) zF) ([]) ∧ (∀ x ∈ acc, Fr.ok W x))) (l.length - 0) ⟨0, ([] : List Fr), ⟨rfl, by omega, rfl, by simp⟩, ⟨s5, s6, s15, s16, (s17.trans (by simp))⟩, ⟨hb, hl, hfr, bg9, r13, r29, r30⟩⟩ ?_
 clear hl hfr hb r13 bg9 r29 r30 s0 s1 s4 s5 s6 s15 s16 s17
 rintro k33 f31 W32 ⟨i, acc, ⟨hk41, hil, hacc, hex⟩, ⟨s5, s6, s15, s16, s17⟩, ⟨r34, r35, r36, r37, r38, r39, r40⟩⟩
 refine V.seq ?_
 refine V.reg 1 [V.E (.bool (decide ((i : Int) < (l.length : Int))))] [] (V.i r34 (V.i r35 (V.i r36 (V.i r37 (V.i r38 (V.i r39 r40)))))) ?_ ?_
 ·refine V.ac ?_ V.an
  ·exact V.z1 rfl fun h => V.xb (V.eo h 17 s17) (V.eo h 16 s16)
 intro f42 W43 e44
 clear r34 r35 r36 r37 r38 r39 r40
 obtain ⟨⟨r34, r35, r36, r37, r38, r39, r40⟩, z_⟩ := e44.g
 obtain ⟨s5, s6, s15, s16, s17⟩ := V.e5 e44 s5 s6 s15 s16 s17
 have s18 := V.es e44 0 18 rfl
 clear e44 z_
 refine V.t_done rfl (V.nx (V.seq ?_))
 cases hc45 : (decide ((i : Int) < (l.length : Int)))
 ·have s18_ : f42 18 = .bool false := s18.trans (by rw [hc45])
  refine V.cond_f (V.ev_tmp rfl s18_) ?_
  have hi : i = l.length := by have := of_decide_eq_false hc45; omega
  refine V.exit (V.tx (V.tx (V.bx (V.nx (V.seq ?_)))))
  refine V.reg 2 [V.E (.slice (some ⟨g17, 0, none⟩) l.length l.length), V.E (.slice (some ⟨g17, 0, none⟩) l.length l.length)] [] (V.i r34 (V.i r35 (V.i r36 (V.i r37 (V.i r38 (V.i r39 r40)))))) ?_ ?_
  ·refine V.a2 ?_ ?_
   ·exact V.mo rfl 6 s6
   ·exact V.se rfl 0 31 rfl
  intro f46 W47 e48
  clear r34 r35 r36 r37 r38 r39 r40
  obtain ⟨⟨r34, r35, r36, r37, r38, r39, r40⟩, z_⟩ := e48.g
  have s4 := V.es e48 1 4 rfl
  clear e48 z_
  refine V.t_done rfl (V.nx (V.ret ?_))
  refine V.leave_any (.inl rfl) (V.res_tmp rfl rfl s4) ?_
  have r49 : Own W47 g17 39 4 (acc.map Fr.cells) [] := by have h9 := r39; rw [hi, Nat.sub_self, List.replicate_zero, List.append_nil] at h9; exact h9
  exact ⟨g17, acc, z4.q, rfl, n14, ⟨by omega, hex⟩, r49, r40, n22, r34⟩
 ·have s18_ : f42 18 = .bool true := s18.trans (by rw [hc45])
  refine V.cond_t (V.ev_tmp rfl s18_) ?_
  have hi : i < l.length := by have := of_decide_eq_true hc45; omega
  obtain ⟨x, mx, ex, ex_⟩ := V.at_map Cl.cells (l := l) (i := i) hi
  have gx := hgood x mx
  have fx := r36 x mx
  refine V.skip ?_
  refine V.nx (V.seq (V.block (V.seq ?_)))
  refine V.reg 5 [V.E (.int .i64 (i : Int)), V.E (.pointer (some ((adr A).add (i * 6 + 0)))), V.E (x.v), V.Nb W43 50 #[.int .i64 0, .bool false, .slice none 0 0, .bool false, .slice none 0 0, .int .i64 0], V.E (.int .i64 (i : Int))] [3] (V.i r34 (V.i r35 (V.i r36 (V.i r37 (V.i r38 (V.i r39 (V.i r40 fx))))))) ?_ ?_
  ·refine V.a5 ?_ ?_ ?_ ?_ ?_
   ·exact V.mo rfl 17 s17
   ·exact V.z1 rfl fun h => V.xi (i := i) h.g.1.2.1 ex_ (V.eo h 15 s15) (V.eo h 17 s17)
   ·exact V.z1 rfl fun h => V.xl (V.ed h 1 20 rfl) (V.ld_lsE (i := i) (o := 0) (cs := [.int .i64 x.id, .bool (Q.neg x.w.q), Vs x.w.A (Q.m x.w.q) x.w.c, .bool false, Vs x.w.A' x.w.q.den x.w.c', .int .i64 x.cap]) h.g.1.2.1 ex_ Tryz.underlying50)
   ·exact V.sn rfl fun f W h => V.x_alloc
   ·exact V.se rfl 0 19 rfl
  have o_g9 := r37.lt
  have o_g17 := r39.blk.lt
  have o_bel := r34.size
  have ob_r35 := r35.blt
  intro f51 W52 e53
  clear r34 r35 r36 r37 r38 r39 r40 fx
  obtain ⟨⟨r34, r35, r36, r37, r38, r39, r40, fx⟩, z_⟩ := e53.g
  obtain ⟨s5, s6, s15, s16, s17⟩ := V.e5 e53 s5 s6 s15 s16 s17
  have s21 := V.es e53 2 21 rfl
  obtain ⟨g50, s8, bg50, lg50⟩ := V.eq e53 3 8 rfl
  have mg50 := Nat.le_trans o_bel lg50
  have q9_50 : g9 ≠ g50 := by omega
  have q17_50 : g17 ≠ g50 := by omega
  have q_r35_g50 : 0 < l.length → (adr A).block ≠ g50 := fun h => Nat.ne_of_lt (Nat.lt_of_lt_of_le (ob_r35 h) lg50)
  have s7 := V.es e53 4 7 rfl
  clear e53 z_
  clear o_bel o_g9 o_g17 ob_r35
  refine V.tsr (k := 5) rfl s8 s21 bg50 fun W54 hs b' => ?_
  replace r34 := hs.bel r34 mg50
  replace r35 := hs.ls r35 q_r35_g50
  replace r36 := (fun x_0 hx_0 => hs.fr (r36 x_0 hx_0))
  replace r37 := hs.blk r37 q9_50
  replace r38 := hs.fr r38
  replace r39 := hs.own r39 q17_50
  replace r40 := (fun x_0 hx_0 => hs.fr (r40 x_0 hx_0))
  replace fx := hs.fr fx
  replace bg50 := b'
  clear hs b'
  refine V.t_done rfl (V.nx ?_)
  refine V.reg 8 [V.E (.slice (some ⟨g17, 0, none⟩) l.length l.length), V.E (.int .i64 (i : Int)), V.E (x.v), V.E (.int .i64 (i : Int)), V.E (.agg #[.int .i64 x.id, .bool (Q.neg x.w.q), Vs x.w.A (Q.m x.w.q) x.w.c, .bool false, Vs x.w.A' x.w.q.den x.w.c', .int .i64 x.cap, .int .i64 (i : Int)]), V.E (z4.v), (fun v W => ∃ z55 : Fr, v = z55.v ∧ Fr.ok W z55 ∧ (z55.q = (min ((x.cap : Int) : Rat) (z4.q * x.w.q)))), V.E (.pointer (some ((adr (some ⟨g17, 0, none⟩)).add (i * 4 + 0))))] [] (V.i r34 (V.i r35 (V.i r36 (V.i r37 (V.i r38 (V.i r39 (V.i r40 (V.i fx bg50)))))))) ?_ ?_
  ·refine V.a8 ?_ ?_ ?_ ?_ ?_ ?_ ?_ ?_
   ·exact V.mo rfl 6 s6
   ·exact V.mo rfl 7 s7
   ·exact V.z1 rfl fun h => V.xl (V.eo h 8 s8) (V.lr h.g.1.2.2.2.2.2.2.2.2 Tryz.underlying50)
   ·exact V.mo rfl 7 s7
   ·exact V.z1 rfl fun h => V.b2 (V.ed h 2 24 rfl) (V.ed h 3 25 rfl)
   ·exact V.z1 rfl fun h => V.xl (V.eo h 5 s5) (V.lr h.g.1.2.2.2.1 Tryz.underlying39)
   ·refine V.s2 rfl fun f W h => ?_
    refine V.call en82 (V.args2 (V.ed h 4 26 rfl) (V.ed h 5 27 rfl)) (Calls.mono (part_s (x := (⟨x, (i : Int)⟩ : It)) h.g.1.2.2.2.2.2.2.2.1 h.g.1.2.2.2.2.1 gx.b0 gx.b1 (hS.mono (by decide)) (gx.s.mono (by decide)) ((hS.mul gx.s).mono (by decide))) ?_)
    rintro e W' ⟨z55, rfl, k56, e57, hb⟩
    exact ⟨_, rfl, ⟨z55, rfl, k56, e57⟩, hb⟩
   ·exact V.z1 rfl fun h => V.xi (i := i) (Own.lsn h.g.1.2.2.2.2.2.1 ⟨by simp; omega, Nat.le_refl _, by omega⟩) (fill_get hacc hi) (V.ed h 0 22 rfl) (V.ed h 1 23 rfl)
  intro f58 W59 e60
  clear r34 r35 r36 r37 r38 r39 r40 fx bg50
  obtain ⟨⟨r34, r35, r36, r37, r38, r39, r40, fx, bg50⟩, z_⟩ := e60.g
  obtain ⟨s5, s6, s15, s16, s17⟩ := V.e5 e60 s5 s6 s15 s16 s17
  obtain ⟨z55, s28, r61, n62⟩ := V.eq e60 6 28 rfl
  have s29 := V.es e60 7 29 rfl
  clear e60 z_
  refine V.t_skip (k := 8) rfl rfl rfl (by kernel_rfl) trivial (V.x_store (V.ev_tmp rfl s29) (V.ev_tmp rfl s28) (V.st_own (i := i) (x := [.bool (Q.neg z55.q), Vs z55.A (Q.m z55.q) z55.c, .bool false, Vs z55.A' z55.q.den z55.c']) r39 (by simp; omega) rfl (by kernel_rfl) (by kernel_rfl))) ?_
  replace r34 := V.bel_far (cs := ((((acc.map Fr.cells) ++ List.replicate (l.length - i) zF).set i [.bool (Q.neg z55.q), Vs z55.A (Q.m z55.q) z55.c, .bool false, Vs z55.A' z55.q.den z55.c']).flatten ++ []).toArray) r34 mg17
  replace r35 := Ls.far r35 q24 (((((acc.map Fr.cells) ++ List.replicate (l.length - i) zF).set i [.bool (Q.neg z55.q), Vs z55.A (Q.m z55.q) z55.c, .bool false, Vs z55.A' z55.q.den z55.c']).flatten ++ []).toArray)
  replace r36 := (fun x_0 hx_0 => Fr.ok.far (cs' := ((((acc.map Fr.cells) ++ List.replicate (l.length - i) zF).set i [.bool (Q.neg z55.q), Vs z55.A (Q.m z55.q) z55.c, .bool false, Vs z55.A' z55.q.den z55.c']).flatten ++ []).toArray) (r36 x_0 hx_0) r39.blk (nl_fill _ _))
  replace r37 := V.blk_far (cs := ((((acc.map Fr.cells) ++ List.replicate (l.length - i) zF).set i [.bool (Q.neg z55.q), Vs z55.A (Q.m z55.q) z55.c, .bool false, Vs z55.A' z55.q.den z55.c']).flatten ++ []).toArray) r37 q25
  replace r38 := Fr.ok.far (cs' := ((((acc.map Fr.cells) ++ List.replicate (l.length - i) zF).set i [.bool (Q.neg z55.q), Vs z55.A (Q.m z55.q) z55.c, .bool false, Vs z55.A' z55.q.den z55.c']).flatten ++ []).toArray) r38 r39.blk (nl_fill _ _)
  replace r40 := (fun x_0 hx_0 => Fr.ok.far (cs' := ((((acc.map Fr.cells) ++ List.replicate (l.length - i) zF).set i [.bool (Q.neg z55.q), Vs z55.A (Q.m z55.q) z55.c, .bool false, Vs z55.A' z55.q.den z55.c']).flatten ++ []).toArray) (r40 x_0 hx_0) r39.blk (nl_fill _ _))
  replace fx := Fr.ok.far (cs' := ((((acc.map Fr.cells) ++ List.replicate (l.length - i) zF).set i [.bool (Q.neg z55.q), Vs z55.A (Q.m z55.q) z55.c, .bool false, Vs z55.A' z55.q.den z55.c']).flatten ++ []).toArray) fx r39.blk (nl_fill _ _)
  replace bg50 := V.blk_far (cs := ((((acc.map Fr.cells) ++ List.replicate (l.length - i) zF).set i [.bool (Q.neg z55.q), Vs z55.A (Q.m z55.q) z55.c, .bool false, Vs z55.A' z55.q.den z55.c']).flatten ++ []).toArray) bg50 (Ne.symm q17_50)
  replace r61 := Fr.ok.far (cs' := ((((acc.map Fr.cells) ++ List.replicate (l.length - i) zF).set i [.bool (Q.neg z55.q), Vs z55.A (Q.m z55.q) z55.c, .bool false, Vs z55.A' z55.q.den z55.c']).flatten ++ []).toArray) r61 r39.blk (nl_fill _ _)
  replace r39 := Own.set (i := i) (x := [.bool (Q.neg z55.q), Vs z55.A (Q.m z55.q) z55.c, .bool false, Vs z55.A' z55.q.den z55.c']) r39 rfl
  generalize W59.setRow g17 ((((acc.map Fr.cells) ++ List.replicate (l.length - i) zF).set i [.bool (Q.neg z55.q), Vs z55.A (Q.m z55.q) z55.c, .bool false, Vs z55.A' z55.q.den z55.c']).flatten ++ []).toArray = W63 at *
  have r39_ : Own W63 g17 39 4 (((acc ++ [z55]).map Fr.cells) ++ List.replicate (l.length - (i + 1)) zF) [] := by rw [← fill_set hacc hi]; exact r39
  clear r39
  have r39 := r39_
  clear r39_
  refine V.t_done rfl (V.bn (V.nx ?_))
  clear bg50
  refine V.reg 2 [V.E (.int .i64 ((i : Int) + 1)), V.E (.int .i64 ((i : Int) + 1))] [] (V.i r34 (V.i r35 (V.i r36 (V.i r37 (V.i r38 (V.i r39 (V.i r40 (V.i fx r61)))))))) ?_ ?_
  ·refine V.a2 ?_ ?_
   ·refine V.s1 rfl fun f W h => ?_
    have hw64 : IntKind.i64.wrap ((i : Int) + 1) = (i : Int) + 1 := by exact IntWalk.i64_in _ (by omega)
    exact V.xb (V.eo h 17 s17) rfl ((by kernel_rfl : _ = Result.ok (.int .i64 (IntKind.i64.wrap ((i : Int) + 1))) _).trans (by rw [hw64]))
   ·exact V.me rfl 0 30 rfl
  intro f65 W66 e67
  clear r34 r35 r36 r37 r38 r39 r40 fx r61
  obtain ⟨⟨r34, r35, r36, r37, r38, r39, r40, fx, r61⟩, z_⟩ := e67.g
  obtain ⟨s5, s6, s15, s16⟩ := V.e4 e67 s5 s6 s15 s16
  have s17 := V.es e67 1 17 rfl
  clear e67 z_
  refine V.t_done rfl ?_
  have r68 : ∀ x ∈ (acc ++ [z55]), Fr.ok W66 x := all_snoc r40 r61
  refine V.handed (l.length - (i + 1)) (by have := hk41; omega) ⟨(i + 1), (acc ++ [z55]), ⟨rfl, by omega, by simp [hacc], ExP.snoc hex hacc ex n62⟩, ⟨s5, s6, s15, s16, (s17.trans (by simp))⟩, ⟨r34, r35, r36, r37, r38, r39, r68⟩⟩
theorem en46 : En 46 := en_ Tryz.func46
def fl (q : Rat) : Int := q.num.fdiv q.den
theorem Q.lim1 : ((((Lb.limbs 1).length : Int)) == 0) = false := by decide
def TupF0 (w : World) (b : Bool) (m : Nat) (e : Ending) (w' : World) : Prop := ∃ (B : Option Addr) (d : Nat), e = .returned (.tuple #[.agg #[.bool b, Vs B m d], .int .i64 0]) ∧ R16 w' B (Lb.limbs m).length d (Lb.limbs m) ∧ Below w.heap.size w w'
theorem below_q {A A' : Option Addr} {c c' : Nat} {q : Rat} {w : World} (h1 : R16 w A (Lb.limbs (Q.m q)).length c (Lb.limbs (Q.m q))) (h2 : R16 w A' (Lb.limbs q.den).length c' (Lb.limbs q.den)) (hq : Q.Sz 256 q) :
    Calls Tryz.prog 46 #[.agg #[.bool (Q.neg q), Vs A (Q.m q) c, .bool false, Vs A' q.den c']] w fun e w' => ∃ (b : Bool) (B : Option Addr) (d : Nat), e = .returned (.tuple #[.agg #[.bool (decide (fl q < 0)), .slice B (Lb.limbs (fl q).natAbs).length d], .bool b]) ∧ R16 w' B (Lb.limbs (fl q).natAbs).length d (Lb.limbs (fl q).natAbs) ∧ (∀ ad, B = some ad → w.heap.size ≤ ad.block) ∧ Below w.heap.size w w' := by
 have k1 : Nv (Q.neg q) (Q.m q) := nv_mk hq.n (by omega) Q.neg_zero
 have k2 : Nv false q.den := nv_mk hq.d (by omega) (fun _ => rfl)
 refine V.nt Tryz.func46 rfl rfl fun f0 hf => ?_
 have s0 : f0 0 = .agg #[.bool (Q.neg q), Vs A (Q.m q) c, .bool false, Vs A' q.den c'] := hf 0 (by simp)
 clear hf
 have hb := Below.refl w.heap.size w
 refine V.seq ?_
 refine V.reg 3 [V.Nb w 82 #[.bool (Q.neg q), Vs A (Q.m q) c, .bool false, Vs A' q.den c'], V.Nb w 35 #[.bool false, .slice none 0 0], V.E (.bool false)] [0, 1] (V.i h1 (V.i h2 hb)) ?_ ?_
 ·refine V.a3 ?_ ?_ ?_
  ·exact V.sn rfl fun f W h => V.x_box (V.eo h 0 s0)
  ·exact V.sn rfl fun f W h => V.x_alloc
  ·exact V.z1 rfl fun h => V.xs rfl
 have o_bel := hb.size
 intro f3 W4 e5
 clear h1 h2 hb
 obtain ⟨⟨h1, h2, hb⟩, z_⟩ := e5.g
 replace s0 := V.e1 e5 s0
 obtain ⟨g1, s1, bg1, lg1⟩ := V.eq e5 0 1 rfl
 obtain ⟨g2, s2, bg2, lg2⟩ := V.eq e5 1 2 rfl
 have mg2 := Nat.le_trans o_bel lg2
 have s3 := V.es e5 2 3 rfl
 clear e5 z_
 clear o_bel
 refine V.t_done rfl (V.nx (V.seq ?_))
 refine V.reg 13 [V.E (Vp g1 0), V.E (Vp g1 0), V.E (.agg #[.bool (Q.neg q), Vs A (Q.m q) c]), V.E (Vp g1 0), V.E (Vp g1 2), V.E (.agg #[.bool false, Vs A' q.den c']), (fun v W => ∃ A6 : Option Addr, ∃ c7 : Nat, ∃ A8 : Option Addr, ∃ c9 : Nat, v = .tuple #[.agg #[.bool (decide (fl q < 0)), Vs A6 ((fl q).natAbs) c7], .agg #[.bool (decide (((sgn (Q.neg q) (Q.m q)).fmod (sgn false q.den)) < 0)), .slice A8 (Lb.limbs ((((sgn (Q.neg q) (Q.m q)).fmod (sgn false q.den))).natAbs)).length c9], .int .i64 0] ∧ R16 W A6 ((Lb.limbs ((fl q).natAbs)).length) c7 (Lb.limbs ((fl q).natAbs)) ∧ R16 W A8 ((Lb.limbs ((((sgn (Q.neg q) (Q.m q)).fmod (sgn false q.den))).natAbs)).length) c9 (Lb.limbs ((((sgn (Q.neg q) (Q.m q)).fmod (sgn false q.den))).natAbs)) ∧ (∀ ad, A6 = some ad → w.heap.size ≤ ad.block) ∧ (∀ ad, A8 = some ad → w.heap.size ≤ ad.block)), (fun v W => ∃ A14 : Option Addr, ∃ c15 : Nat, ∃ A16 : Option Addr, ∃ c17 : Nat, v = .tuple #[.agg #[.bool (decide (fl q < 0)), Vs A14 ((fl q).natAbs) c15], .agg #[.bool (decide (((sgn (Q.neg q) (Q.m q)).fmod (sgn false q.den)) < 0)), .slice A16 (Lb.limbs ((((sgn (Q.neg q) (Q.m q)).fmod (sgn false q.den))).natAbs)).length c17], .int .i64 0] ∧ R16 W A14 ((Lb.limbs ((fl q).natAbs)).length) c15 (Lb.limbs ((fl q).natAbs)) ∧ R16 W A16 ((Lb.limbs ((((sgn (Q.neg q) (Q.m q)).fmod (sgn false q.den))).natAbs)).length) c17 (Lb.limbs ((((sgn (Q.neg q) (Q.m q)).fmod (sgn false q.den))).natAbs)) ∧ (∀ ad, A14 = some ad → w.heap.size ≤ ad.block) ∧ (∀ ad, A16 = some ad → w.heap.size ≤ ad.block)), (fun v W => ∃ A18 : Option Addr, ∃ c19 : Nat, v = .agg #[.bool (decide (fl q < 0)), Vs A18 ((fl q).natAbs) c19] ∧ R16 W A18 ((Lb.limbs ((fl q).natAbs)).length) c19 (Lb.limbs ((fl q).natAbs)) ∧ (∀ ad, A18 = some ad → w.heap.size ≤ ad.block)), (fun v W => ∃ A20 : Option Addr, ∃ c21 : Nat, v = .agg #[.bool (decide (((sgn (Q.neg q) (Q.m q)).fmod (sgn false q.den)) < 0)), .slice A20 (Lb.limbs ((((sgn (Q.neg q) (Q.m q)).fmod (sgn false q.den))).natAbs)).length c21] ∧ R16 W A20 ((Lb.limbs ((((sgn (Q.neg q) (Q.m q)).fmod (sgn false q.den))).natAbs)).length) c21 (Lb.limbs ((((sgn (Q.neg q) (Q.m q)).fmod (sgn false q.den))).natAbs)) ∧ (∀ ad, A20 = some ad → w.heap.size ≤ ad.block)), V.E (.int .i64 0), V.Nb W4 35 #[.bool false, .slice none 0 0], V.Nb W4 35 #[.bool false, .slice none 0 0]] [11, 12] (V.i h1 (V.i h2 (V.i hb (V.i bg1 bg2)))) ?_ ?_
 ·refine V.b8 ?_ ?_ ?_ ?_ ?_ ?_ ?_ ?_ (V.a5 ?_ ?_ ?_ ?_ ?_)
  ·exact V.z1 rfl fun h => V.xa (V.eo h 1 s1)
  ·exact V.z1 rfl fun h => V.xa (V.ed h 0 8 rfl)
  ·exact V.z1 rfl fun h => V.xl (V.ed h 1 9 rfl) (V.ld_mid (xs := [.bool (Q.neg q), Vs A (Q.m q) c]) h.g.1.2.2.2.1 (by intro j hj; match j, hj with | 0, _ => rfl | 1, _ => rfl) Tryz.underlying35)
  ·exact V.z1 rfl fun h => V.xa (V.eo h 1 s1)
  ·exact V.z1 rfl fun h => V.xa (V.ed h 3 11 rfl)
  ·exact V.z1 rfl fun h => V.xl (V.ed h 4 12 rfl) (V.ld_mid (xs := [.bool false, Vs A' q.den c']) h.g.1.2.2.2.1 (by intro j hj; match j, hj with | 0, _ => rfl | 1, _ => rfl) Tryz.underlying35)
  ·refine V.s2 rfl fun f W h => ?_
   refine V.call en89 (V.args2 (V.ed h 2 10 rfl) (V.ed h 5 13 rfl)) (Calls.mono (Div_nn (decide (fl q < 0)) ((fl q).natAbs) h.g.1.1 h.g.1.2.1 k1 k2 q.den_nz Q.zneg (by rw [Q.sgn_z, Q.sgn_num]; rfl)) ?_)
   rintro e W' ⟨A6, c7, A8, c9, rfl, k10, k12, p11, p13, hb⟩
   exact ⟨_, rfl, ⟨A6, c7, A8, c9, rfl, k10, k12, (fun ad e => Nat.le_trans h.g.1.2.2.1.size (p11 ad e)), (fun ad e => Nat.le_trans h.g.1.2.2.1.size (p13 ad e))⟩, hb⟩
  ·refine V.s2 rfl fun f W h => ?_
   obtain ⟨A6, c7, A8, c9, a14, k6_0, k6_1, p6_0, p6_1⟩ := V.dp h 6 14 (by kernel_rfl) rfl
   exact V.v2 (.tuple #[.agg #[.bool (decide (fl q < 0)), Vs A6 ((fl q).natAbs) c7], .agg #[.bool (decide (((sgn (Q.neg q) (Q.m q)).fmod (sgn false q.den)) < 0)), .slice A8 (Lb.limbs ((((sgn (Q.neg q) (Q.m q)).fmod (sgn false q.den))).natAbs)).length c9], .int .i64 0]) (V.xm (V.ev_tmp rfl a14)) ⟨A6, c7, A8, c9, rfl, k6_0, k6_1, p6_0, p6_1⟩
  ·refine V.s2 rfl fun f W h => ?_
   obtain ⟨A14, c15, A16, c17, a7, k7_0, k7_1, p7_0, p7_1⟩ := V.dp h 7 7 (by kernel_rfl) rfl
   exact V.v2 (.agg #[.bool (decide (fl q < 0)), Vs A14 ((fl q).natAbs) c15]) (V.xe (V.ev_tmp rfl a7)) ⟨A14, c15, rfl, k7_0, p7_0⟩
  ·refine V.s2 rfl fun f W h => ?_
   obtain ⟨A14, c15, A16, c17, a7, k7_0, k7_1, p7_0, p7_1⟩ := V.dp h 7 7 (by kernel_rfl) rfl
   exact V.v2 (.agg #[.bool (decide (((sgn (Q.neg q) (Q.m q)).fmod (sgn false q.den)) < 0)), .slice A16 (Lb.limbs ((((sgn (Q.neg q) (Q.m q)).fmod (sgn false q.den))).natAbs)).length c17]) (V.xe (V.ev_tmp rfl a7)) ⟨A16, c17, rfl, k7_1, p7_1⟩
  ·refine V.s1 rfl fun f W h => ?_
   obtain ⟨A14, c15, A16, c17, a7, k7_0, k7_1, p7_0, p7_1⟩ := V.dp h 7 7 (by kernel_rfl) rfl
   exact V.xe (V.ev_tmp rfl a7)
  ·exact V.sn rfl fun f W h => V.x_alloc
  ·exact V.sn rfl fun f W h => V.x_alloc
 have o_g1 := bg1.lt
 have o_g2 := bg2.lt
 have o_bel := hb.size
 intro f24 W25 e26
 clear h1 h2 hb bg1 bg2
 obtain ⟨⟨h1, h2, hb, bg1, bg2⟩, z_⟩ := e26.g
 obtain ⟨s0, s2, s3⟩ := V.e3 e26 s0 s2 s3
 obtain ⟨A18, c19, s15, r27, n28⟩ := V.eq e26 8 15 rfl
 obtain ⟨A20, c21, s16, r29, n30⟩ := V.eq e26 9 16 rfl
 have s17 := V.es e26 10 17 rfl
 obtain ⟨g22, s4, bg22, lg22⟩ := V.eq e26 11 4 rfl
 have mg22 := Nat.le_trans o_bel lg22
 have q1_22 : g1 ≠ g22 := by omega
 have q2_22 : g2 ≠ g22 := by omega
 obtain ⟨g23, s5, bg23, lg23⟩ := V.eq e26 12 5 rfl
 have mg23 := Nat.le_trans o_bel lg23
 have q1_23 : g1 ≠ g23 := by omega
 have q2_23 : g2 ≠ g23 := by omega
 have q22_23 : g22 ≠ g23 := V.ep e26 11 12 4 5 s4 s5
 clear e26 z_
 clear o_bel o_g1 o_g2
 refine V.tsr (k := 13) rfl s4 s15 bg22 fun W31 hs b' => ?_
 replace h1 := hs.r16 h1
 replace h2 := hs.r16 h2
 replace hb := hs.bel hb mg22
 replace bg1 := hs.blk bg1 q1_22
 replace bg2 := hs.blk bg2 q2_22
 replace r27 := hs.r16 r27
 replace r29 := hs.r16 r29
 replace bg23 := hs.blk bg23 (Ne.symm q22_23)
 replace bg22 := b'
 clear hs b'
 refine V.tsr (k := 14) rfl s5 s16 bg23 fun W32 hs b' => ?_
 replace h1 := hs.r16 h1
 replace h2 := hs.r16 h2
 replace hb := hs.bel hb mg23
 replace bg1 := hs.blk bg1 q1_23
 replace bg2 := hs.blk bg2 q2_23
 replace r27 := hs.r16 r27
 replace r29 := hs.r16 r29
 replace bg22 := hs.blk bg22 q22_23
 replace bg23 := b'
 clear hs b'
 refine V.t_val (k := 15) (v := .int .i64 0) (t := 6) rfl rfl rfl (by kernel_rfl) trivial (V.xs (V.ev_tmp rfl s17)) ?_
 intro f33 e34 u35
 replace s0 : f33 0 = .agg #[.bool (Q.neg q), Vs A (Q.m q) c, .bool false, Vs A' q.den c'] := (u35 0 (by decide)).trans s0
 replace s2 : f33 2 = Vp g2 0 := (u35 2 (by decide)).trans s2
 replace s3 : f33 3 = .bool false := (u35 3 (by decide)).trans s3
 replace s15 : f33 15 = .agg #[.bool (decide (fl q < 0)), Vs A18 ((fl q).natAbs) c19] := (u35 15 (by decide)).trans s15
 replace s16 : f33 16 = .agg #[.bool (decide (((sgn (Q.neg q) (Q.m q)).fmod (sgn false q.den)) < 0)), .slice A20 (Lb.limbs ((((sgn (Q.neg q) (Q.m q)).fmod (sgn false q.den))).natAbs)).length c21] := (u35 16 (by decide)).trans s16
 replace s17 : f33 17 = .int .i64 0 := (u35 17 (by decide)).trans s17
 replace s4 : f33 4 = Vp g22 0 := (u35 4 (by decide)).trans s4
 replace s5 : f33 5 = Vp g23 0 := (u35 5 (by decide)).trans s5
 have s6 := e34
 clear u35
 refine V.t_done rfl (V.nx (V.seq ?_))
 clear bg1
 refine V.regF 5 [V.E (.agg #[.bool (decide (fl q < 0)), Vs A18 ((fl q).natAbs) c19]), V.E (Vp g23 1), V.E (.slice A20 (Lb.limbs ((((sgn (Q.neg q) (Q.m q)).fmod (sgn false q.den))).natAbs)).length c21), V.E (.int .i64 ((Lb.limbs ((((sgn (Q.neg q) (Q.m q)).fmod (sgn false q.den))).natAbs)).length : Int)), V.E (.bool (((Lb.limbs ((((sgn (Q.neg q) (Q.m q)).fmod (sgn false q.den))).natAbs)).length : Int) == (0 : Int)))] [] (V.i h1 (V.i h2 (V.i hb (V.i bg2 (V.i r27 (V.i r29 (V.i bg22 bg23))))))) [1, 2, 3, 4] (fun W => Blk W g23 35 #[.bool (decide (((sgn (Q.neg q) (Q.m q)).fmod (sgn false q.den)) < 0)), .slice A20 (Lb.limbs ((((sgn (Q.neg q) (Q.m q)).fmod (sgn false q.den))).natAbs)).length c21]) (fun W h => h.1.2.2.2.2.2.2.2) ?_ ?_ ?_
 ·refine V.a5 ?_ ?_ ?_ ?_ ?_
  ·exact V.z1 rfl fun h => V.xl (V.eo h 4 s4) (V.lr h.g.1.2.2.2.2.2.2.1 Tryz.underlying35)
  ·exact V.z1 rfl fun h => V.xa (V.eo h 5 s5)
  ·exact V.z1 rfl fun h => V.xl (V.ed h 1 19 rfl) (V.lo h.g.1.2.2.2.2.2.2.2 rfl)
  ·exact V.z1 rfl fun h => V.x_len (V.ed h 2 20 rfl)
  ·exact V.z1 rfl fun h => V.xb (V.ed h 3 21 rfl) rfl
 ·refine V.fl4 (V.fl_step rfl rfl fun f W h => ?_) (V.fl_step rfl rfl fun f W h => ?_) (V.fl_step rfl rfl fun f W h => ?_) (V.fl_step rfl rfl fun f W h => ?_)
  ·skip
   exact ⟨Vp g23 1, fun _ _ => V.xa (V.eo h 5 s5), rfl⟩
  ·skip
   exact ⟨.slice A20 (Lb.limbs ((((sgn (Q.neg q) (Q.m q)).fmod (sgn false q.den))).natAbs)).length c21, fun _ hS => V.xl (V.ed h 1 19 rfl) (V.lo hS rfl), rfl⟩
  ·skip
   exact ⟨.int .i64 ((Lb.limbs ((((sgn (Q.neg q) (Q.m q)).fmod (sgn false q.den))).natAbs)).length : Int), fun _ _ => V.x_len (V.ed h 2 20 rfl), rfl⟩
  ·skip
   exact ⟨.bool (((Lb.limbs ((((sgn (Q.neg q) (Q.m q)).fmod (sgn false q.den))).natAbs)).length : Int) == (0 : Int)), fun _ _ => V.xb (V.ed h 3 21 rfl) rfl, rfl⟩
 intro f36 W37 e38
 clear h1 h2 hb bg2 r27 r29 bg22 bg23
 obtain ⟨⟨h1, h2, hb, bg2, r27, r29, bg22, bg23⟩, z_⟩ := e38.g
 obtain ⟨s0, s2, s3⟩ := V.e3 e38 s0 s2 s3
 have s18 := V.es e38 0 18 rfl
 have s22 := V.es e38 4 22 rfl
 clear e38 z_
 refine V.t_skip (k := 5) rfl rfl rfl (by kernel_rfl) (V.blk_far (cs := #[.bool (decide (fl q < 0)), Vs A18 ((fl q).natAbs) c19]) bg23 (Ne.symm q2_23)) (V.x_store (V.ev_tmp rfl s2) (V.ev_tmp rfl s18) (V.st_row (cs' := #[.bool (decide (fl q < 0)), Vs A18 ((fl q).natAbs) c19]) bg2 (by kernel_rfl) rfl (by kernel_rfl))) ?_
 replace h1 := V.r16_far (cs' := #[.bool (decide (fl q < 0)), Vs A18 ((fl q).natAbs) c19]) h1 bg2 (by simp [noLimb])
 replace h2 := V.r16_far (cs' := #[.bool (decide (fl q < 0)), Vs A18 ((fl q).natAbs) c19]) h2 bg2 (by simp [noLimb])
 replace hb := V.bel_far (cs := #[.bool (decide (fl q < 0)), Vs A18 ((fl q).natAbs) c19]) hb mg2
 replace r27 := V.r16_far (cs' := #[.bool (decide (fl q < 0)), Vs A18 ((fl q).natAbs) c19]) r27 bg2 (by simp [noLimb])
 replace r29 := V.r16_far (cs' := #[.bool (decide (fl q < 0)), Vs A18 ((fl q).natAbs) c19]) r29 bg2 (by simp [noLimb])
 replace bg22 := V.blk_far (cs := #[.bool (decide (fl q < 0)), Vs A18 ((fl q).natAbs) c19]) bg22 (Ne.symm q2_22)
 replace bg23 := V.blk_far (cs := #[.bool (decide (fl q < 0)), Vs A18 ((fl q).natAbs) c19]) bg23 (Ne.symm q2_23)
 replace bg2 := V.blk_same (cs' := #[.bool (decide (fl q < 0)), Vs A18 ((fl q).natAbs) c19]) bg2
 generalize W37.setRow g2 #[.bool (decide (fl q < 0)), Vs A18 ((fl q).natAbs) c19] = W39 at *
 refine V.t_val (k := 6) (v := .bool (((Lb.limbs ((((sgn (Q.neg q) (Q.m q)).fmod (sgn false q.den))).natAbs)).length : Int) == (0 : Int))) (t := 3) rfl rfl rfl (by kernel_rfl) bg23 (V.xs (V.ev_tmp rfl s22)) ?_
 intro f40 e41 u42
 replace s0 : f40 0 = .agg #[.bool (Q.neg q), Vs A (Q.m q) c, .bool false, Vs A' q.den c'] := (u42 0 (by decide)).trans s0
 replace s2 : f40 2 = Vp g2 0 := (u42 2 (by decide)).trans s2
 replace s18 : f40 18 = .agg #[.bool (decide (fl q < 0)), Vs A18 ((fl q).natAbs) c19] := (u42 18 (by decide)).trans s18
 replace s22 : f40 22 = .bool (((Lb.limbs ((((sgn (Q.neg q) (Q.m q)).fmod (sgn false q.den))).natAbs)).length : Int) == (0 : Int)) := (u42 22 (by decide)).trans s22
 have s3 := e41
 clear u42
 refine V.t_done rfl (V.nx (V.ret ?_))
 refine V.leave_any (.inl rfl) (V.res_cellTmp rfl rfl rfl s2 s3 (V.lr bg2 Tryz.underlying35 rfl (by kernel_rfl))) ?_
 exact ⟨_, A18, c19, rfl, r27, n28, hb⟩
theorem Floor_q {A A' : Option Addr} {c c' : Nat} {q : Rat} {w : World} (h1 : R16 w A (Lb.limbs (Q.m q)).length c (Lb.limbs (Q.m q))) (h2 : R16 w A' (Lb.limbs q.den).length c' (Lb.limbs q.den)) (hq : Q.Sz 256 q) :
    Calls Tryz.prog 15 #[.agg #[.bool (Q.neg q), Vs A (Q.m q) c, .bool false, Vs A' q.den c']] w fun e w' => ∃ (B : Option Addr) (d : Nat), e = .returned (.tuple #[.agg #[.bool (decide (fl q < 0)), .slice B (Lb.limbs (fl q).natAbs).length d], .int .i64 0]) ∧ R16 w' B (Lb.limbs (fl q).natAbs).length d (Lb.limbs (fl q).natAbs) ∧ Below w.heap.size w w' := by
 refine V.nt Tryz.func15 rfl rfl fun f0 hf => ?_
 have s0 : f0 0 = .agg #[.bool (Q.neg q), Vs A (Q.m q) c, .bool false, Vs A' q.den c'] := hf 0 (by simp)
 clear hf
 have hb := Below.refl w.heap.size w
 refine V.seq ?_
 refine V.reg 3 [V.Nb w 39 #[.bool (Q.neg q), Vs A (Q.m q) c, .bool false, Vs A' q.den c'], V.Nb w 35 #[.bool false, .slice none 0 0], V.E (.int .i64 0)] [0, 1] (V.i h1 (V.i h2 hb)) ?_ ?_
 ·refine V.a3 ?_ ?_ ?_
  ·exact V.sn rfl fun f W h => V.x_box (V.eo h 0 s0)
  ·exact V.sn rfl fun f W h => V.x_alloc
  ·exact V.z1 rfl fun h => V.xs rfl
 have o_bel := hb.size
 intro f45 W46 e47
 clear h1 h2 hb
 obtain ⟨⟨h1, h2, hb⟩, z_⟩ := e47.g
 replace s0 := V.e1 e47 s0
 obtain ⟨g43, s1, bg43, lg43⟩ := V.eq e47 0 1 rfl
 obtain ⟨g44, s2, bg44, lg44⟩ := V.eq e47 1 2 rfl
 have mg44 := Nat.le_trans o_bel lg44
 have s3 := V.es e47 2 3 rfl
 clear e47 z_
 clear o_bel
 refine V.t_done rfl (V.nx (V.seq (V.seq ?_)))
 refine V.reg 3 [V.E (.agg #[.bool (Q.neg q), Vs A (Q.m q) c, .bool false, Vs A' q.den c']), V.E (.bool true), V.E (.bool false)] [] (V.i h1 (V.i h2 (V.i hb (V.i bg43 bg44)))) ?_ ?_
 ·refine V.a3 ?_ ?_ ?_
  ·exact V.z1 rfl fun h => V.xl (V.eo h 1 s1) (V.lr h.g.1.2.2.2.1 Tryz.underlying39)
  ·refine V.s2 rfl fun f W h => ?_
   refine V.call en25 (V.args1 (V.ed h 0 6 rfl)) (Calls.mono (Valid_q h.g.1.1 h.g.1.2.1 hq) ?_)
   rintro e W' ⟨rfl, hb⟩
   exact ⟨_, rfl, rfl, hb⟩
  ·exact V.z1 rfl fun h => V.x_un (V.ed h 1 7 rfl)
 intro f48 W49 e50
 clear h1 h2 hb bg43 bg44
 obtain ⟨⟨h1, h2, hb, bg43, bg44⟩, z_⟩ := e50.g
 obtain ⟨s0, s1, s2, s3⟩ := V.e4 e50 s0 s1 s2 s3
 have s8 := V.es e50 2 8 rfl
 clear e50 z_
 refine V.t_done rfl (V.nx ?_)
 refine V.cond_f (V.ev_tmp rfl s8) ?_
 refine V.skip ?_
 refine V.nx (V.seq ?_)
 refine V.reg 7 [V.E (.agg #[.bool (Q.neg q), Vs A (Q.m q) c, .bool false, Vs A' q.den c']), V.E (.agg #[.bool (Q.neg q), Vs A (Q.m q) c, .bool false, Vs A' q.den c']), (fun v W => ∃ b55 : Bool, ∃ A51 : Option Addr, ∃ c52 : Nat, v = .tuple #[.agg #[.bool (decide (fl q < 0)), Vs A51 ((fl q).natAbs) c52], .bool b55] ∧ R16 W A51 ((Lb.limbs ((fl q).natAbs)).length) c52 (Lb.limbs ((fl q).natAbs))), (fun v W => ∃ b56 : Bool, ∃ A57 : Option Addr, ∃ c58 : Nat, v = .tuple #[.agg #[.bool (decide (fl q < 0)), Vs A57 ((fl q).natAbs) c58], .bool b56] ∧ R16 W A57 ((Lb.limbs ((fl q).natAbs)).length) c58 (Lb.limbs ((fl q).natAbs))), (fun v W => ∃ A59 : Option Addr, ∃ c60 : Nat, v = .agg #[.bool (decide (fl q < 0)), Vs A59 ((fl q).natAbs) c60] ∧ R16 W A59 ((Lb.limbs ((fl q).natAbs)).length) c60 (Lb.limbs ((fl q).natAbs))), (fun v W => ∃ b61 : Bool, v = .bool b61), V.Nb W49 35 #[.bool false, .slice none 0 0]] [6] (V.i h1 (V.i h2 (V.i hb (V.i bg43 bg44)))) ?_ ?_
 ·refine V.a7 ?_ ?_ ?_ ?_ ?_ ?_ ?_
  ·exact V.z1 rfl fun h => V.xl (V.eo h 1 s1) (V.lr h.g.1.2.2.2.1 Tryz.underlying39)
  ·exact V.z1 rfl fun h => V.b1 (V.ed h 0 11 rfl)
  ·refine V.s2 rfl fun f W h => ?_
   refine V.call en46 (V.args1 (V.ed h 1 12 rfl)) (Calls.mono (below_q h.g.1.1 h.g.1.2.1 hq) ?_)
   rintro e W' ⟨b55, A51, c52, rfl, k53, p54, hb⟩
   exact ⟨_, rfl, ⟨b55, A51, c52, rfl, k53⟩, hb⟩
  ·refine V.s2 rfl fun f W h => ?_
   obtain ⟨b55, A51, c52, a13, k2_0⟩ := V.dp h 2 13 (by kernel_rfl) rfl
   exact V.v2 (.tuple #[.agg #[.bool (decide (fl q < 0)), Vs A51 ((fl q).natAbs) c52], .bool b55]) (V.xm (V.ev_tmp rfl a13)) ⟨b55, A51, c52, rfl, k2_0⟩
  ·refine V.s2 rfl fun f W h => ?_
   obtain ⟨b56, A57, c58, a10, k3_0⟩ := V.dp h 3 10 (by kernel_rfl) rfl
   exact V.v2 (.agg #[.bool (decide (fl q < 0)), Vs A57 ((fl q).natAbs) c58]) (V.xe (V.ev_tmp rfl a10)) ⟨A57, c58, rfl, k3_0⟩
  ·refine V.s2 rfl fun f W h => ?_
   obtain ⟨b56, A57, c58, a10, k3_0⟩ := V.dp h 3 10 (by kernel_rfl) rfl
   exact V.v2 (.bool b56) (V.xe (V.ev_tmp rfl a10)) ⟨b56, rfl⟩
  ·exact V.sn rfl fun f W h => V.x_alloc
 have o_g43 := bg43.lt
 have o_g44 := bg44.lt
 have o_bel := hb.size
 intro f63 W64 e65
 clear h1 h2 hb bg43 bg44
 obtain ⟨⟨h1, h2, hb, bg43, bg44⟩, z_⟩ := e65.g
 obtain ⟨s0, s2, s3⟩ := V.e3 e65 s0 s2 s3
 obtain ⟨A59, c60, s14, r66⟩ := V.eq e65 4 14 rfl
 obtain ⟨b61, s15⟩ := V.eq e65 5 15 rfl
 obtain ⟨g62, s4, bg62, lg62⟩ := V.eq e65 6 4 rfl
 have mg62 := Nat.le_trans o_bel lg62
 have q43_62 : g43 ≠ g62 := by omega
 have q44_62 : g44 ≠ g62 := by omega
 clear e65 z_
 clear o_bel o_g43 o_g44
 refine V.tsr (k := 7) rfl s4 s14 bg62 fun W67 hs b' => ?_
 replace h1 := hs.r16 h1
 replace h2 := hs.r16 h2
 replace hb := hs.bel hb mg62
 replace bg43 := hs.blk bg43 q43_62
 replace bg44 := hs.blk bg44 q44_62
 replace r66 := hs.r16 r66
 replace bg62 := b'
 clear hs b'
 refine V.t_val (k := 8) (v := .bool b61) (t := 5) rfl rfl rfl (by kernel_rfl) trivial (V.xs (V.ev_tmp rfl s15)) ?_
 intro f68 e69 u70
 replace s0 : f68 0 = .agg #[.bool (Q.neg q), Vs A (Q.m q) c, .bool false, Vs A' q.den c'] := (u70 0 (by decide)).trans s0
 replace s2 : f68 2 = Vp g44 0 := (u70 2 (by decide)).trans s2
 replace s3 : f68 3 = .int .i64 0 := (u70 3 (by decide)).trans s3
 replace s14 : f68 14 = .agg #[.bool (decide (fl q < 0)), Vs A59 ((fl q).natAbs) c60] := (u70 14 (by decide)).trans s14
 replace s15 : f68 15 = .bool b61 := (u70 15 (by decide)).trans s15
 replace s4 : f68 4 = Vp g62 0 := (u70 4 (by decide)).trans s4
 have s5 := e69
 clear u70
 refine V.t_done rfl (V.nx (V.seq ?_))
 clear bg43
 refine V.reg 1 [V.E (.agg #[.bool (decide (fl q < 0)), Vs A59 ((fl q).natAbs) c60])] [] (V.i h1 (V.i h2 (V.i hb (V.i bg44 (V.i r66 bg62))))) ?_ ?_
 ·refine V.ac ?_ V.an
  ·exact V.z1 rfl fun h => V.xl (V.eo h 4 s4) (V.lr h.g.1.2.2.2.2.2 Tryz.underlying35)
 intro f71 W72 e73
 clear h1 h2 hb bg44 r66 bg62
 obtain ⟨⟨h1, h2, hb, bg44, r66, bg62⟩, z_⟩ := e73.g
 obtain ⟨s0, s2, s3⟩ := V.e3 e73 s0 s2 s3
 have s16 := V.es e73 0 16 rfl
 clear e73 z_
 refine V.tsr (k := 1) rfl s2 s16 bg44 fun W74 hs b' => ?_
 replace h1 := hs.r16 h1
 replace h2 := hs.r16 h2
 replace hb := hs.bel hb mg44
 replace r66 := hs.r16 r66
 replace bg62 := hs.blk bg62 (Ne.symm q44_62)
 replace bg44 := b'
 clear hs b'
 refine V.t_val (k := 2) (v := .int .i64 0) (t := 3) rfl rfl rfl (by kernel_rfl) trivial (V.xs rfl) ?_
 intro f75 e76 u77
 replace s0 : f75 0 = .agg #[.bool (Q.neg q), Vs A (Q.m q) c, .bool false, Vs A' q.den c'] := (u77 0 (by decide)).trans s0
 replace s2 : f75 2 = Vp g44 0 := (u77 2 (by decide)).trans s2
 replace s16 : f75 16 = .agg #[.bool (decide (fl q < 0)), Vs A59 ((fl q).natAbs) c60] := (u77 16 (by decide)).trans s16
 have s3 := e76
 clear u77
 refine V.t_done rfl (V.nx (V.ret ?_))
 refine V.leave_any (.inl rfl) (V.res_cellTmp rfl rfl rfl s2 s3 (V.lr bg44 Tryz.underlying35 rfl (by kernel_rfl))) ?_
 exact ⟨A59, c60, rfl, r66, hb⟩
theorem Make_q {A A' : Option Addr} {c c' : Nat} {q : Rat} {w : World} (h1 : R16 w A (Lb.limbs (Q.m q)).length c (Lb.limbs (Q.m q))) (h2 : R16 w A' (Lb.limbs q.den).length c' (Lb.limbs q.den)) (hq : Q.Sz 256 q) :
    Calls Tryz.prog 16 #[.agg #[.bool (Q.neg q), Vs A (Q.m q) c], .agg #[.bool false, Vs A' q.den c']] w (FrOutT w q) := by
 have k1 : Nv (Q.neg q) (Q.m q) := nv_mk hq.n (by omega) Q.neg_zero
 have k2 : Nv false q.den := nv_mk hq.d (by omega) (fun _ => rfl)
 have k3 : Nv false (Nat.gcd (Q.m q) q.den) := by rw [Q.gcd_one]; exact ⟨fun _ => rfl, by decide⟩
 have k4 : Nat.gcd (Q.m q) q.den ≠ 0 := by rw [Q.gcd_one]; decide
 refine V.nt Tryz.func16 rfl rfl fun f0 hf => ?_
 have s0 : f0 0 = .agg #[.bool (Q.neg q), Vs A (Q.m q) c] := hf 0 (by simp)
 have s1 : f0 1 = .agg #[.bool false, Vs A' q.den c'] := hf 1 (by simp)
 clear hf
 have hb := Below.refl w.heap.size w
 refine V.seq ?_
 refine V.reg 4 [V.Nb w 35 #[.bool (Q.neg q), Vs A (Q.m q) c], V.Nb w 35 #[.bool false, Vs A' q.den c'], V.Nb w 39 #[.bool false, .slice none 0 0, .bool false, .slice none 0 0], V.E (.int .i64 0)] [0, 1, 2] (V.i h1 (V.i h2 hb)) ?_ ?_
 ·refine V.a4 ?_ ?_ ?_ ?_
  ·exact V.sn rfl fun f W h => V.x_box (V.eo h 0 s0)
  ·exact V.sn rfl fun f W h => V.x_box (V.eo h 1 s1)
  ·exact V.sn rfl fun f W h => V.x_alloc
  ·exact V.z1 rfl fun h => V.xs rfl
 have o_bel := hb.size
 intro f81 W82 e83
 clear h1 h2 hb
 obtain ⟨⟨h1, h2, hb⟩, z_⟩ := e83.g
 obtain ⟨s0, s1⟩ := V.e2 e83 s0 s1
 obtain ⟨g78, s2, bg78, lg78⟩ := V.eq e83 0 2 rfl
 obtain ⟨g79, s3, bg79, lg79⟩ := V.eq e83 1 3 rfl
 obtain ⟨g80, s4, bg80, lg80⟩ := V.eq e83 2 4 rfl
 have mg80 := Nat.le_trans o_bel lg80
 have q78_80 : g78 ≠ g80 := V.ep e83 0 2 2 4 s2 s4
 have q79_80 : g79 ≠ g80 := V.ep e83 1 2 3 4 s3 s4
 have s5 := V.es e83 3 5 rfl
 clear e83 z_
 clear o_bel
 refine V.t_done rfl (V.nx (V.seq (V.block (V.seq ?_))))
 refine V.reg 9 [V.E (.agg #[.bool (Q.neg q), Vs A (Q.m q) c]), V.E (.bool true), V.E (.bool false), V.E (.bool false), (V.Gd (!false) (V.E (.agg #[.bool false, Vs A' q.den c']))), (V.Gd (!false) (V.E (.bool true))), (V.Gd (!false) (V.E (.bool false))), V.E (.bool false), V.E (.bool false)] [] (V.i h1 (V.i h2 (V.i hb (V.i bg78 (V.i bg79 bg80))))) ?_ ?_
 ·refine V.b8 ?_ ?_ ?_ ?_ ?_ ?_ ?_ ?_ (V.ac ?_ V.an)
  ·exact V.z1 rfl fun h => V.xl (V.eo h 2 s2) (V.lr h.g.1.2.2.2.1 Tryz.underlying35)
  ·refine V.s2 rfl fun f W h => ?_
   refine V.call en47 (V.args1 (V.ed h 0 8 rfl)) (Calls.mono ((WValid_nn h.g.1.1 k1)) ?_)
   rintro e W' ⟨rfl, hb⟩
   exact ⟨_, rfl, rfl, hb⟩
  ·exact V.z1 rfl fun h => V.x_un (V.ed h 1 9 rfl)
  ·exact V.me rfl 2 10 rfl
  ·exact V.gf 3 11 rfl rfl fun hp f W h => V.v1 (V.xl (V.eo h 3 s3) (V.lr h.g.1.2.2.2.2.1 Tryz.underlying35))
  ·refine V.gf 3 11 rfl rfl fun hp f W h => ?_
   refine V.call en47 (V.args1 (V.eg h 4 12 rfl hp)) (Calls.mono ((WValid_nn h.g.1.2.1 k2)) ?_)
   rintro e W' ⟨rfl, hb⟩
   exact ⟨_, rfl, rfl, hb⟩
  ·exact V.gf 3 11 rfl rfl fun hp f W h => V.v1 (V.x_un (V.eg h 5 13 rfl hp))
  ·refine V.s1 rfl fun f W h => ?_
   have d14 := V.dp h 6 14 (by kernel_rfl) rfl
   exact V.x_pick_f (V.ed h 3 11 rfl) (V.ev_tmp rfl (V.gd_on d14 rfl))
  ·exact V.se rfl 7 15 rfl
 intro f84 W85 e86
 clear h1 h2 hb bg78 bg79 bg80
 obtain ⟨⟨h1, h2, hb, bg78, bg79, bg80⟩, z_⟩ := e86.g
 obtain ⟨s0, s1, s2, s3, s4, s5⟩ := V.e6 e86 s0 s1 s2 s3 s4 s5
 have s7 := V.es e86 8 7 rfl
 clear e86 z_
 refine V.t_done rfl (V.nx ?_)
 refine V.cond_f (V.ev_tmp rfl s7) ?_
 refine V.seq ?_
 refine V.reg 5 [V.E (Vp g79 1), V.E (Vs A' q.den c'), V.E (.int .i64 ((Lb.limbs q.den).length : Int)), V.E (.bool (((Lb.limbs q.den).length : Int) == (0 : Int))), V.E (.bool (((Lb.limbs q.den).length : Int) == (0 : Int)))] [] (V.i h1 (V.i h2 (V.i hb (V.i bg78 (V.i bg79 bg80))))) ?_ ?_
 ·refine V.a5 ?_ ?_ ?_ ?_ ?_
  ·exact V.z1 rfl fun h => V.xa (V.eo h 3 s3)
  ·exact V.z1 rfl fun h => V.xl (V.ed h 0 18 rfl) (V.lo h.g.1.2.2.2.2.1 rfl)
  ·exact V.z1 rfl fun h => V.x_len (V.ed h 1 19 rfl)
  ·exact V.z1 rfl fun h => V.xb (V.ed h 2 20 rfl) rfl
  ·exact V.se rfl 3 21 rfl
 intro f87 W88 e89
 clear h1 h2 hb bg78 bg79 bg80
 obtain ⟨⟨h1, h2, hb, bg78, bg79, bg80⟩, z_⟩ := e89.g
 obtain ⟨s0, s1, s2, s3, s4, s5⟩ := V.e6 e89 s0 s1 s2 s3 s4 s5
 have s17 := V.es e89 4 17 rfl
 clear e89 z_
 refine V.t_done rfl (V.nx ?_)
 have s17_ : f87 17 = .bool false := s17.trans (congrArg Value.bool (Q.den_len q))
 refine V.cond_f (V.ev_tmp rfl s17_) ?_
 refine V.skip ?_
 refine V.bn (V.nx (V.seq ?_))
 refine V.reg 4 [V.E (.agg #[.bool (Q.neg q), Vs A (Q.m q) c]), V.E (.agg #[.bool false, Vs A' q.den c']), (fun v W => ∃ A90 : Option Addr, ∃ c91 : Nat, v = .agg #[.bool false, Vs A90 (Nat.gcd (Q.m q) q.den) c91] ∧ R16 W A90 ((Lb.limbs (Nat.gcd (Q.m q) q.den)).length) c91 (Lb.limbs (Nat.gcd (Q.m q) q.den)) ∧ (∀ ad, A90 = some ad → w.heap.size ≤ ad.block)), V.Nb W88 35 #[.bool false, .slice none 0 0]] [3] (V.i h1 (V.i h2 (V.i hb (V.i bg78 (V.i bg79 bg80))))) ?_ ?_
 ·refine V.a4 ?_ ?_ ?_ ?_
  ·exact V.z1 rfl fun h => V.xl (V.eo h 2 s2) (V.lr h.g.1.2.2.2.1 Tryz.underlying35)
  ·exact V.z1 rfl fun h => V.xl (V.eo h 3 s3) (V.lr h.g.1.2.2.2.2.1 Tryz.underlying35)
  ·refine V.s2 rfl fun f W h => ?_
   refine V.call en48 (V.args2 (V.ed h 0 23 rfl) (V.ed h 1 24 rfl)) (Calls.mono ((common_nn h.g.1.1 h.g.1.2.1 k1 k2)) ?_)
   rintro e W' ⟨A90, c91, rfl, k92, p93, hb⟩
   exact ⟨_, rfl, ⟨A90, c91, rfl, k92, (fun ad e => Nat.le_trans h.g.1.2.2.1.size (p93 ad e))⟩, hb⟩
  ·exact V.sn rfl fun f W h => V.x_alloc
 have o_g78 := bg78.lt
 have o_g79 := bg79.lt
 have o_g80 := bg80.lt
 have o_bel := hb.size
 intro f95 W96 e97
 clear h1 h2 hb bg78 bg79 bg80
 obtain ⟨⟨h1, h2, hb, bg78, bg79, bg80⟩, z_⟩ := e97.g
 obtain ⟨s0, s1, s2, s3, s4, s5⟩ := V.e6 e97 s0 s1 s2 s3 s4 s5
 obtain ⟨A90, c91, s25, r98, n99⟩ := V.eq e97 2 25 rfl
 obtain ⟨g94, s6, bg94, lg94⟩ := V.eq e97 3 6 rfl
 have mg94 := Nat.le_trans o_bel lg94
 have q78_94 : g78 ≠ g94 := by omega
 have q79_94 : g79 ≠ g94 := by omega
 have q80_94 : g80 ≠ g94 := by omega
 clear e97 z_
 clear o_bel o_g78 o_g79 o_g80
 refine V.tsr (k := 4) rfl s6 s25 bg94 fun W100 hs b' => ?_
 replace h1 := hs.r16 h1
 replace h2 := hs.r16 h2
 replace hb := hs.bel hb mg94
 replace bg78 := hs.blk bg78 q78_94
 replace bg79 := hs.blk bg79 q79_94
 replace bg80 := hs.blk bg80 q80_94
 replace r98 := hs.r16 r98
 replace bg94 := b'
 clear hs b'
 refine V.t_done rfl (V.nx (V.seq (V.seq ?_)))
 refine V.reg 2 [V.E (Vp g79 0), V.E (.bool false)] [] (V.i h1 (V.i h2 (V.i hb (V.i bg78 (V.i bg79 (V.i bg80 (V.i r98 bg94))))))) ?_ ?_
 ·refine V.a2 ?_ ?_
  ·exact V.z1 rfl fun h => V.xa (V.eo h 3 s3)
  ·exact V.z1 rfl fun h => V.xl (V.ed h 0 26 rfl) (V.lo h.g.1.2.2.2.2.1 rfl)
 intro f101 W102 e103
 clear h1 h2 hb bg78 bg79 bg80 r98 bg94
 obtain ⟨⟨h1, h2, hb, bg78, bg79, bg80, r98, bg94⟩, z_⟩ := e103.g
 obtain ⟨s0, s1, s2, s3, s4, s5, s6⟩ := V.e7 e103 s0 s1 s2 s3 s4 s5 s6
 have s27 := V.es e103 1 27 rfl
 clear e103 z_
 refine V.t_done rfl (V.nx ?_)
 refine V.cond_f (V.ev_tmp rfl s27) ?_
 refine V.skip ?_
 refine V.nx (V.seq ?_)
 refine V.reg 11 [V.E (.agg #[.bool (Q.neg q), Vs A (Q.m q) c]), V.E (.agg #[.bool false, Vs A90 (Nat.gcd (Q.m q) q.den) c91]), (fun v W => ∃ A104 : Option Addr, ∃ c105 : Nat, v = .agg #[.bool (Q.neg q), Vs A104 (Q.m q) c105] ∧ R16 W A104 ((Lb.limbs (Q.m q)).length) c105 (Lb.limbs (Q.m q)) ∧ (∀ ad, A104 = some ad → w.heap.size ≤ ad.block)), V.E (.agg #[.bool false, Vs A' q.den c']), V.E (.agg #[.bool false, Vs A90 (Nat.gcd (Q.m q) q.den) c91]), (fun v W => ∃ A108 : Option Addr, ∃ c109 : Nat, v = .agg #[.bool false, Vs A108 q.den c109] ∧ R16 W A108 ((Lb.limbs q.den).length) c109 (Lb.limbs q.den) ∧ (∀ ad, A108 = some ad → w.heap.size ≤ ad.block)), (fun v W => ∃ A112 : Option Addr, ∃ c113 : Nat, ∃ A114 : Option Addr, ∃ c115 : Nat, v = .agg #[.bool (Q.neg q), Vs A112 (Q.m q) c113, .bool false, Vs A114 q.den c115] ∧ R16 W A112 ((Lb.limbs (Q.m q)).length) c113 (Lb.limbs (Q.m q)) ∧ R16 W A114 ((Lb.limbs q.den).length) c115 (Lb.limbs q.den) ∧ (∀ ad, A112 = some ad → w.heap.size ≤ ad.block) ∧ (∀ ad, A114 = some ad → w.heap.size ≤ ad.block)), (fun v W => ∃ A116 : Option Addr, ∃ c117 : Nat, ∃ A118 : Option Addr, ∃ c119 : Nat, v = .agg #[.bool (Q.neg q), Vs A116 (Q.m q) c117, .bool false, Vs A118 q.den c119] ∧ R16 W A116 ((Lb.limbs (Q.m q)).length) c117 (Lb.limbs (Q.m q)) ∧ R16 W A118 ((Lb.limbs q.den).length) c119 (Lb.limbs q.den) ∧ (∀ ad, A116 = some ad → w.heap.size ≤ ad.block) ∧ (∀ ad, A118 = some ad → w.heap.size ≤ ad.block)), (fun v W => ∃ A120 : Option Addr, ∃ c121 : Nat, ∃ A122 : Option Addr, ∃ c123 : Nat, v = .tuple #[.agg #[.bool (Q.neg q), Vs A120 (Q.m q) c121, .bool false, Vs A122 q.den c123], .int .i64 0] ∧ R16 W A120 ((Lb.limbs (Q.m q)).length) c121 (Lb.limbs (Q.m q)) ∧ R16 W A122 ((Lb.limbs q.den).length) c123 (Lb.limbs q.den) ∧ (∀ ad, A120 = some ad → w.heap.size ≤ ad.block) ∧ (∀ ad, A122 = some ad → w.heap.size ≤ ad.block)), (fun v W => ∃ A124 : Option Addr, ∃ c125 : Nat, ∃ A126 : Option Addr, ∃ c127 : Nat, v = .agg #[.bool (Q.neg q), Vs A124 (Q.m q) c125, .bool false, Vs A126 q.den c127] ∧ R16 W A124 ((Lb.limbs (Q.m q)).length) c125 (Lb.limbs (Q.m q)) ∧ R16 W A126 ((Lb.limbs q.den).length) c127 (Lb.limbs q.den) ∧ (∀ ad, A124 = some ad → w.heap.size ≤ ad.block) ∧ (∀ ad, A126 = some ad → w.heap.size ≤ ad.block)), V.E (.int .i64 0)] [] (V.i h1 (V.i h2 (V.i hb (V.i bg78 (V.i bg79 (V.i bg80 (V.i r98 bg94))))))) ?_ ?_
 ·refine V.b8 ?_ ?_ ?_ ?_ ?_ ?_ ?_ ?_ (V.a3 ?_ ?_ ?_)
  ·exact V.z1 rfl fun h => V.xl (V.eo h 2 s2) (V.lr h.g.1.2.2.2.1 Tryz.underlying35)
  ·exact V.z1 rfl fun h => V.xl (V.eo h 6 s6) (V.lr h.g.1.2.2.2.2.2.2.2 Tryz.underlying35)
  ·refine V.s2 rfl fun f W h => ?_
   refine V.call en50 (V.args2 (V.ed h 0 30 rfl) (V.ed h 1 31 rfl)) (Calls.mono (over_nn (Q.neg q) (Q.m q) h.g.1.1 h.g.1.2.2.2.2.2.2.1 k1 k3 k4 Q.neg_zero (by rw [Q.gcd_one]; simp [sgn])) ?_)
   rintro e W' ⟨A104, c105, rfl, k106, p107, hb⟩
   exact ⟨_, rfl, ⟨A104, c105, rfl, k106, (fun ad e => Nat.le_trans h.g.1.2.2.1.size (p107 ad e))⟩, hb⟩
  ·exact V.z1 rfl fun h => V.xl (V.eo h 3 s3) (V.lr h.g.1.2.2.2.2.1 Tryz.underlying35)
  ·exact V.z1 rfl fun h => V.xl (V.eo h 6 s6) (V.lr h.g.1.2.2.2.2.2.2.2 Tryz.underlying35)
  ·refine V.s2 rfl fun f W h => ?_
   refine V.call en50 (V.args2 (V.ed h 3 33 rfl) (V.ed h 4 34 rfl)) (Calls.mono (over_nn false q.den h.g.1.2.1 h.g.1.2.2.2.2.2.2.1 k2 k3 k4 (fun _ => rfl) (by rw [Q.gcd_one]; simp [sgn])) ?_)
   rintro e W' ⟨A108, c109, rfl, k110, p111, hb⟩
   exact ⟨_, rfl, ⟨A108, c109, rfl, k110, (fun ad e => Nat.le_trans h.g.1.2.2.1.size (p111 ad e))⟩, hb⟩
  ·refine V.s2 rfl fun f W h => ?_
   obtain ⟨A104, c105, a32, k2_0, p2_0⟩ := V.dp h 2 32 (by kernel_rfl) rfl
   obtain ⟨A108, c109, a35, k5_0, p5_0⟩ := V.dp h 5 35 (by kernel_rfl) rfl
   exact V.v2 (.agg #[.bool (Q.neg q), Vs A104 (Q.m q) c105, .bool false, Vs A108 q.den c109]) (V.b2 (V.ev_tmp rfl a32) (V.ev_tmp rfl a35)) ⟨A104, c105, A108, c109, rfl, k2_0, k5_0, p2_0, p5_0⟩
  ·refine V.s2 rfl fun f W h => ?_
   obtain ⟨A112, c113, A114, c115, a36, k6_0, k6_1, p6_0, p6_1⟩ := V.dp h 6 36 (by kernel_rfl) rfl
   exact V.v2 (.agg #[.bool (Q.neg q), Vs A112 (Q.m q) c113, .bool false, Vs A114 q.den c115]) (V.b1 (V.ev_tmp rfl a36)) ⟨A112, c113, A114, c115, rfl, k6_0, k6_1, p6_0, p6_1⟩
  ·refine V.s2 rfl fun f W h => ?_
   obtain ⟨A116, c117, A118, c119, a37, k7_0, k7_1, p7_0, p7_1⟩ := V.dp h 7 37 (by kernel_rfl) rfl
   refine V.call en51 (V.args1 (V.ev_tmp rfl a37)) (Calls.mono (told_ok (Q.Sz.fits hq)) ?_)
   rintro e W' ⟨rfl, hb⟩
   exact ⟨_, rfl, ⟨A116, c117, A118, c119, rfl, (k7_0.below hb (Nat.le_refl _)), (k7_1.below hb (Nat.le_refl _)), p7_0, p7_1⟩, hb⟩
  ·refine V.s2 rfl fun f W h => ?_
   obtain ⟨A120, c121, A122, c123, a38, k8_0, k8_1, p8_0, p8_1⟩ := V.dp h 8 38 (by kernel_rfl) rfl
   exact V.v2 (.agg #[.bool (Q.neg q), Vs A120 (Q.m q) c121, .bool false, Vs A122 q.den c123]) (V.xe (V.ev_tmp rfl a38)) ⟨A120, c121, A122, c123, rfl, k8_0, k8_1, p8_0, p8_1⟩
  ·refine V.s1 rfl fun f W h => ?_
   obtain ⟨A120, c121, A122, c123, a38, k8_0, k8_1, p8_0, p8_1⟩ := V.dp h 8 38 (by kernel_rfl) rfl
   exact V.xe (V.ev_tmp rfl a38)
 intro f128 W129 e130
 clear h1 h2 hb bg78 bg79 bg80 r98 bg94
 obtain ⟨⟨h1, h2, hb, bg78, bg79, bg80, r98, bg94⟩, z_⟩ := e130.g
 obtain ⟨s0, s1, s4, s5⟩ := V.e4 e130 s0 s1 s4 s5
 obtain ⟨A124, c125, A126, c127, s39, r131, r132, n133, n134⟩ := V.eq e130 9 39 rfl
 have s40 := V.es e130 10 40 rfl
 clear e130 z_
 refine V.tsr (k := 11) rfl s4 s39 bg80 fun W135 hs b' => ?_
 replace h1 := hs.r16 h1
 replace h2 := hs.r16 h2
 replace hb := hs.bel hb mg80
 replace bg78 := hs.blk bg78 q78_80
 replace bg79 := hs.blk bg79 q79_80
 replace r98 := hs.r16 r98
 replace bg94 := hs.blk bg94 (Ne.symm q80_94)
 replace r131 := hs.r16 r131
 replace r132 := hs.r16 r132
 replace bg80 := b'
 clear hs b'
 refine V.t_val (k := 12) (v := .int .i64 0) (t := 5) rfl rfl rfl (by kernel_rfl) trivial (V.xs (V.ev_tmp rfl s40)) ?_
 intro f136 e137 u138
 replace s0 : f136 0 = .agg #[.bool (Q.neg q), Vs A (Q.m q) c] := (u138 0 (by decide)).trans s0
 replace s1 : f136 1 = .agg #[.bool false, Vs A' q.den c'] := (u138 1 (by decide)).trans s1
 replace s4 : f136 4 = Vp g80 0 := (u138 4 (by decide)).trans s4
 replace s39 : f136 39 = .agg #[.bool (Q.neg q), Vs A124 (Q.m q) c125, .bool false, Vs A126 q.den c127] := (u138 39 (by decide)).trans s39
 replace s40 : f136 40 = .int .i64 0 := (u138 40 (by decide)).trans s40
 have s5 := e137
 clear u138
 refine V.t_done rfl (V.nx (V.ret ?_))
 refine V.leave_any (.inl rfl) (V.res_cellTmp rfl rfl rfl s4 s5 (V.lr bg80 Tryz.underlying39 rfl (by kernel_rfl))) ?_
 exact ⟨⟨A124, c125, A126, c127, q⟩, rfl, ⟨r131, r132⟩, rfl, hb⟩
theorem Floor_s {x : Fr} {w : World} (hx : Fr.ok w x) (hs : Q.Sz 256 x.q) : Calls Tryz.prog 15 #[x.v] w (TupF0 w (decide (fl x.q < 0)) (fl x.q).natAbs) := Floor_q hx.n hx.d hs
theorem Make_z {A : Option Addr} {c : Nat} {y : Fr} {w : World} {z : Int} (h1 : R16 w A (Lb.limbs z.natAbs).length c (Lb.limbs z.natAbs)) (h2 : R16 w y.A (Lb.limbs (Q.m y.q)).length y.c (Lb.limbs (Q.m y.q))) (hy : y.q = ((1 : Int) : Rat)) (hs : Q.Sz 256 (z : Rat)) :
    Calls Tryz.prog 16 #[.agg #[.bool (decide (z < 0)), Vs A z.natAbs c], .agg #[.bool (Q.neg y.q), Vs y.A (Q.m y.q) y.c]] w (FrOutT w (z : Rat)) := by
  rw [hy, Q.int_m] at h2
  have := Make_q (q := (z : Rat)) (by rw [Q.int_m]; exact h1) (by rw [Q.int_den]; exact h2) hs
  rw [Q.int_neg, Q.int_m, Q.int_den] at this
  rw [hy, Q.int_neg, Q.int_m]
  exact this
end Go.Proofs.YtjbcalbbhomkjaaGreat
namespace Go.Proofs.YtjbcalbbhomkjaaGreat
open Go.RowKit
namespace V
open RI (act)
theorem enterM {P : Program} {K n : Nat} {fn : Func} {c : Code} {args : Array Value} {w : World} {R : Ending → World → Prop} (hf : P.funcs[K]? = some fn) (hb : fn.body = some c) (hn : fn.ntmps = n) (ha : args.size ≤ n)
  (h : ∀ f : Nat → Value, (∀ t, t < args.size → f t = args.getD t undef) → Wp P c n [] (bodyPostM Fence.wide 0 P fn R) f w) : Calls P K args w R := by
 refine (callsIn_wide (n := 0)).1 (callsIn_of_wp_marks (F := Fence.wide) hf hb trivial (wpIn_wide.2 ?_))
 have e : args ++ Array.replicate (fn.ntmps - args.size) undef = RI.frame n (fun t => (args ++ Array.replicate (fn.ntmps - args.size) undef).getD t undef) := RI.frame_of (by simp; omega)
 rw [e]
 refine h _ fun t ht => ?_
 simp [Array.getD, ht]
 intro h1
 omega
section leave
variable {P : Program} {n : Nat} {fn : Func} {R : Ending → World → Prop} {f : Nat → Value} {W : World}
theorem leaveM1 {e : Exit} (he : e = .ret ∨ e = .normal) {D : Nat} (hD : W.heap[D]? = some (.deferred (some []))) {v : Value} (hr : (results fn (RI.frame n f)).run P (W.putObj D (.deferred none)) = .ok v (W.putObj D (.deferred none))) (hR : R (.returned v) (W.putObj D (.deferred none))) :
  bodyPostM Fence.wide 0 P fn R e (act n [{ target := .collected D, args := #[] }] f) W := by
 rcases he with rfl | rfl
 ·exact leave_mark hD hr hR
 ·exact leave_mark hD hr hR
end leave
def Dfr (D : Nat) (W : World) : Prop := W.heap[D]? = some (.deferred (some []))
theorem Stb.dfr {D : Nat} : Stb fun W => Dfr D W := fun W W' h hE => (hE.block D (by unfold Dfr at h; exact (Array.getElem?_eq_some_iff.1 h).1)).trans h
instance {D : Nat} : StC (fun W => Dfr D W) := ⟨Stb.dfr⟩
instance {w : World} {D : Nat} : Ab w (Dfr D w) (fun W => Dfr D W) := .mk' Stb.dfr
theorem Dfr.lt {D : Nat} {W : World} (h : Dfr D W) : D < W.heap.size := (Array.getElem?_eq_some_iff.1 h).1
section ins
variable {F : Fence} {N n : Nat} {P : Program} {ops : Array Oper} {rest : List Oper} {o : Oper} {f : Nat → Value} {Q : Exit → Act → World → Prop} {w w' : World}
def plainOp (o : Oper) : Bool := match o.op with | .call _ => false | .defer _ => false | _ => true
theorem in_val {v : Value} {t : Tmp} (hg : o.guard = none) (hp : plainOp o = true) (hd : o.dst = some t) (hx : (execOp (act n [] f).eval o).run P w = .ok (.value v) w') (h : ∀ f' : Nat → Value, f' t = v → (∀ u, u ≠ t → f' u = f u) → wpListIn F N P ops Q rest (act n [] f') w') : wpListIn F N P ops Q (o :: rest) (act n [] f) w := by
 refine wpListIn_plain hg fun K hK => ⟨?_, ?_⟩
 ·intro g hgg
  unfold plainOp at hp
  unfold Oper.about at hgg
  split at hgg
  ·rename_i c e; rw [e] at hp; cases hp
  ·cases hgg
 ·rw [Oper.semAt_plain F _ _ (by intro c e; unfold plainOp at hp; rw [e] at hp; cases hp), hx]
  refine hK _ _ ?_
  have := h (RI.upd f t v) (RI.upd_same _ _ _) (fun u hu => RI.upd_ne _ _ hu)
  have e : (act n [] f).put o.dst v = act n [] (RI.upd f t v) := by
   rw [hd]
   show ({ tmps := (RI.frame n f).setIfInBounds t v, defers := [] } : Act) = _
   rw [RI.frame_set]; rfl
  rw [e]; exact this
theorem in_skip (hg : o.guard = none) (hp : plainOp o = true) (hd : o.dst = none) (hx : (execOp (act n [] f).eval o).run P w = .ok .skip w') (h : wpListIn F N P ops Q rest (act n [] f) w') : wpListIn F N P ops Q (o :: rest) (act n [] f) w := by
 refine wpListIn_plain hg fun K hK => ⟨?_, ?_⟩
 ·intro g hgg
  unfold plainOp at hp
  unfold Oper.about at hgg
  split at hgg
  ·rename_i c e; rw [e] at hp; cases hp
  ·cases hgg
 ·rw [Oper.semAt_plain F _ _ (by intro c e; unfold plainOp at hp; rw [e] at hp; cases hp), hx]
  refine hK _ _ ?_
  have e : (act n [] f).put o.dst undef = act n [] f := by rw [hd]; rfl
  rw [e]; exact h
end ins
theorem rf {P : Program} {n : Nat} {g : Operand} {ps : Array Tmp} {assign body : Code} {Q : Exit → Act → World → Prop} {f : Nat → Value} {w : World} {gf : FuncId} {lb : Array Value}
  (hg : (act n [] f).eval g = .func (.func gf) #[] lb) (eg : ∀ args w, (callFunc gf args).run P w = .ok (.enter gf args) w)
  {Kp : World → World → Prop} {more : Nat → World → World → Array Value → Prop} {fin : Nat → World → World → Prop} (hit : Iter P gf lb Kp more fin w)
  (hKt : ∀ {A B C : World}, Kp A B → Kp B C → Kp A C) (hKs : ∀ {A B : World}, Sim w.heap.size A B → Kp A B)
  (hmore : ∀ k W W' args, more k W W' args → Keeps w.heap.size W W' ∧ args.size = ps.size) (hfin : ∀ k W W', fin k W W' → Keeps w.heap.size W W')
  (I : Nat → World → Prop) (Ia : Nat → Array Value → World → Prop) (Ib : Nat → Array Value → (Nat → Value) → Prop) (Id : World → Prop)
  (hI : ∀ k W W', I k W → Sim w.heap.size W W' → I k W') (hIa : ∀ k args W W', Ia k args W → Sim w.heap.size W W' → Ia k args W') (hId : ∀ W W', Id W → Sim w.heap.size W W' → Id W')
  (h0 : ∀ W, Below w.heap.size w W → I 0 W)
  (ha : ∀ k W W' args, I k W → more k W W' args → Ia k args W')
  (hassign : ∀ (l k : Nat) (args : Array Value) (W : World), Ia k args W → args.size = ps.size →
   assign.wpIn (Fence.wide.inRound l) 9 P (Exit.then (fun a' W' => Keeps w.heap.size W W' ∧ Kp W W' ∧ Ia k args W' ∧ ∃ f', a' = act n [] f' ∧ Ib k args f') (fun _ _ _ => False)) { tmps := (ps.zip args).foldl (fun t (p, v) => t.setIfInBounds p v) (act n [] f).tmps, defers := [] } W)
  (hbody : ∀ (l k : Nat) (args : Array Value) (f' : Nat → Value) (W : World), Ia k args W → Ib k args f' → body.wpIn (Fence.wide.inRound l) 9 P (rfPost w.heap.size Kp (I (k + 1)) (fun _ _ => False) W) (act n [] f') W)
  (hend : ∀ k W W', I k W → fin k W W' → Id W')
  (hdone : ∀ (D : Nat) (W : World), w.heap.size ≤ D → Id W → Dfr D W → Q .normal (act n [{ target := .collected D, args := #[] }] f) W) : Wp P (.rangeFunc g ps assign body) n [] Q f w := by
 refine (wpIn_wide (n := 0)).1 (rf_law hg eg hit hKt hKs hmore hfin I Ia (fun k args a' W => Ia k args W ∧ ∃ f', a' = act n [] f' ∧ Ib k args f') (fun _ _ => False) Id hI ?_ (fun _ _ _ h => h.elim) hId (fun W hW _ => h0 W hW) ha hassign ?_ hend hdone (fun _ _ _ _ h => h.elim))
 ·rintro k args a' W W' ⟨h1, h2⟩ hs; exact ⟨hIa _ _ _ _ h1 hs, h2⟩
 ·rintro l k args a' W _ _ ⟨h1, f', rfl, h2⟩; exact hbody l k args f' W h1 h2
theorem params2 {n p q : Nat} {f : Nat → Value} {a b : Value} (h : Nat.blt p n = true) (h' : Nat.blt q n = true) (hne : p ≠ q) : ∃ f' : Nat → Value, ({ tmps := (#[p, q].zip #[a, b]).foldl (fun t (p, v) => t.setIfInBounds p v) (act n [] f).tmps, defers := [] } : Act) = act n [] f' ∧ f' p = a ∧ f' q = b ∧ ∀ u, u ≠ p → u ≠ q → f' u = f u := by
 refine ⟨RI.upd (RI.upd f p a) q b, ?_, ?_, RI.upd_same _ _ _, fun u h1 h2 => by rw [RI.upd_ne _ _ h2, RI.upd_ne _ _ h1]⟩
 ·have e : (#[p, q].zip #[a, b]).foldl (fun t (x : Tmp × Value) => t.setIfInBounds x.1 x.2) (act n [] f).tmps = ((RI.frame n f).setIfInBounds p a).setIfInBounds q b := by
   simp [← Array.foldl_toList]; rfl
  refine (congrArg (fun t => ({ tmps := t, defers := [] } : Act)) e).trans ?_
  rw [RI.frame_set, RI.frame_set]; rfl
 ·rw [RI.upd_ne _ _ hne, RI.upd_same]
theorem params1 {n p : Nat} {f : Nat → Value} {a : Value} (h : Nat.blt p n = true) : ∃ f' : Nat → Value, ({ tmps := (#[p].zip #[a]).foldl (fun t (p, v) => t.setIfInBounds p v) (act n [] f).tmps, defers := [] } : Act) = act n [] f' ∧ f' p = a ∧ ∀ u, u ≠ p → f' u = f u := by
 refine ⟨RI.upd f p a, ?_, RI.upd_same _ _ _, fun u h1 => RI.upd_ne _ _ h1⟩
 have e : (#[p].zip #[a]).foldl (fun t (x : Tmp × Value) => t.setIfInBounds x.1 x.2) (act n [] f).tmps = (RI.frame n f).setIfInBounds p a := by
  simp [← Array.foldl_toList]; rfl
 refine (congrArg (fun t => ({ tmps := t, defers := [] } : Act)) e).trans ?_
 rw [RI.frame_set]; rfl
end V
end Go.Proofs.YtjbcalbbhomkjaaGreat
namespace Go.Proofs.YtjbcalbbhomkjaaGreat
open Go.RowKit
attribute [local irreducible] RI.frame RI.act RI.Ob RI.Tail RI.out V.Wp V.Fn Oper.wp
theorem en120 : En 120 := en_ Tryz.func120
theorem en149 : En 149 := en_ Tryz.func149
def IntJ (w : World) (A : Option Addr) (c m g1 g4 : Nat) (k : Nat) (W : World) : Prop :=
  Below w.heap.size w W ∧ Blk W g1 35 #[.bool false, Vs A m c] ∧ ∃ j : Nat, j + k = (Lb.limbs m).length ∧ Blk W g4 119 #[.int .u64 ((Lb.val ((Lb.limbs m).drop j) : Nat) : Int)]
def IntA (w : World) (A : Option Addr) (c m g1 g4 : Nat) (k : Nat) (args : Array Value) (W : World) : Prop :=
  ∃ j : Nat, j + k + 1 = (Lb.limbs m).length ∧ Below w.heap.size w W ∧ Blk W g1 35 #[.bool false, Vs A m c] ∧ Blk W g4 119 #[.int .u64 ((Lb.val ((Lb.limbs m).drop (j + 1)) : Nat) : Int)] ∧ args = #[.int .i64 (j : Int), .int .u16 (((Lb.limbs m)[j]?.getD 0 : Nat) : Int)]
theorem keeps_setRow (B : Nat) {W : World} {g : Nat} {t : TypeId} {cs : Array Value} (h : Blk W g t cs) (cs' : Array Value) : Keeps B W (W.setRow g cs') := by
  refine ⟨by rw [V.setRow_size]; exact Nat.le_refl _, fun k o hk ho hc => ?_⟩
  rw [V.setRow_far]
  · exact ho
  · rintro rfl; unfold Blk at h; rw [h] at ho; cases ho; cases hc
theorem V.shl16 {W : World} {v : Nat} {x y : Operand} (h : v < 281474976710656) : (do eqGuard .shl 119 x y (.int .u64 (v : Int)) (.int .u64 16); binOp .shl 119 (.int .u64 (v : Int)) (.int .u64 16)).run Tryz.prog W = .ok (.int .u64 ((v : Int) * 65536)) W := by
  refine (by kernel_rfl : _ = Result.ok (.int .u64 (IntKind.u64.wrap ((v : Int) * 65536))) W).trans ?_
  rw [IntWalk.u64_in _ (by omega)]
theorem V.or16 {W : World} {v d e : Nat} {x y : Operand} (h : v < 281474976710656) (hd : d < 65536) (he : e = d + 65536 * v) : (do eqGuard .or 119 x y (.int .u64 ((v : Int) * 65536)) (.int .u64 (d : Int)); binOp .or 119 (.int .u64 ((v : Int) * 65536)) (.int .u64 (d : Int))).run Tryz.prog W = .ok (.int .u64 (e : Int)) W := by
  refine (by kernel_rfl : _ = Result.ok (.int .u64 (bits BinOp.or IntKind.u64 ((v : Int) * 65536) (d : Int))) W).trans ?_
  rw [or64 v d h hd, show v * 65536 + d = e by omega]
theorem Lb.ok_get {xs : List Nat} (h : Lb.Ok xs) (j : Nat) : xs[j]?.getD 0 < 65536 := by
  cases hx : xs[j]? with
  | none => simp
  | some x => exact h x (List.mem_of_getElem? hx)
theorem Lb.drop_small {m j : Nat} (h : (Lb.limbs m).length ≤ 3) : Lb.val ((Lb.limbs m).drop (j + 1)) < 281474976710656 := by
  have h1 := Lb.val_lt (Lb.ok_drop (Lb.ok_limbs m) (j + 1))
  have h2 : 65536 ^ ((Lb.limbs m).drop (j + 1)).length ≤ 65536 ^ 2 := Nat.pow_le_pow_right (by decide) (by rw [List.length_drop]; omega)
  omega
theorem below_setRow {B : Nat} {W : World} {g : Nat} (cs : Array Value) (h : B ≤ g) : Below B W (W.setRow g cs) := ⟨rfl, rfl, rfl, by rw [V.setRow_size]; exact Nat.le_refl _, fun k hk => V.setRow_far (by omega)⟩
theorem WInt_nn {A : Option Addr} {c m : Nat} {w : World} (h1 : R16 w A (Lb.limbs m).length c (Lb.limbs m)) (h4 : (Lb.limbs m).length ≤ 3) :
    Calls Tryz.prog 83 #[.agg #[.bool false, Vs A m c]] w fun e w' => e = .returned (.tuple #[.int .i64 (m : Int), .int .i64 0]) ∧ Below w.heap.size w w' := by
 have hn : Nv false m := ⟨fun _ => rfl, by omega⟩
 have hm := Q.lt_len h4
 have hmax := h1.max
 have hcap := h1.cap
 refine V.enterM Tryz.func83 rfl rfl (by simp) fun f0 hf => ?_
 have s0 : f0 0 = .agg #[.bool false, Vs A m c] := hf 0 (by simp)
 clear hf
 have hb := Below.refl w.heap.size w
 have w_h1 := h1
 refine V.seq ?_
 refine V.reg 3 [V.Nb w 35 #[.bool false, Vs A m c], V.E (.int .i64 0), V.E (.int .i64 0)] [0] (V.i h1 hb) ?_ ?_
 ·refine V.a3 ?_ ?_ ?_
  ·exact V.sn rfl fun f W h => V.x_box (V.eo h 0 s0)
  ·exact V.z1 rfl fun h => V.xs rfl
  ·exact V.z1 rfl fun h => V.xs rfl
 have o_bel := hb.size
 intro f2 W3 e4
 clear h1 hb
 obtain ⟨⟨h1, hb⟩, z_⟩ := e4.g
 replace s0 := V.e1 e4 s0
 obtain ⟨g1, s1, bg1, lg1⟩ := V.eq e4 0 1 rfl
 have s2 := V.es e4 1 2 rfl
 have s3 := V.es e4 2 3 rfl
 clear e4 z_
 clear o_bel
 refine V.t_done rfl (V.nx (V.seq (V.seq ?_)))
 refine V.reg 3 [V.E (.agg #[.bool false, Vs A m c]), V.E (.bool true), V.E (.bool false)] [] (V.i h1 (V.i hb bg1)) ?_ ?_
 ·refine V.a3 ?_ ?_ ?_
  ·exact V.z1 rfl fun h => V.xl (V.eo h 1 s1) (V.lr h.g.1.2.2 Tryz.underlying35)
  ·refine V.s2 rfl fun f W h => ?_
   refine V.call en47 (V.args1 (V.ed h 0 7 rfl)) (Calls.mono ((WValid_nn h.g.1.1 hn)) ?_)
   rintro e W' ⟨rfl, hb⟩
   exact ⟨_, rfl, rfl, hb⟩
  ·exact V.z1 rfl fun h => V.x_un (V.ed h 1 8 rfl)
 intro f5 W6 e7
 clear h1 hb bg1
 obtain ⟨⟨h1, hb, bg1⟩, z_⟩ := e7.g
 obtain ⟨s0, s1, s2, s3⟩ := V.e4 e7 s0 s1 s2 s3
 have s9 := V.es e7 2 9 rfl
 clear e7 z_
 refine V.t_done rfl (V.nx ?_)
 refine V.cond_f (V.ev_tmp rfl s9) ?_
 refine V.skip ?_
 refine V.nx (V.seq (V.seq ?_))
 refine V.reg 4 [V.E (Vp g1 1), V.E (Vs A m c), V.E (.int .i64 ((Lb.limbs m).length : Int)), V.E (.bool (decide (4 < ((Lb.limbs m).length : Int))))] [] (V.i h1 (V.i hb bg1)) ?_ ?_
 ·refine V.a4 ?_ ?_ ?_ ?_
  ·exact V.z1 rfl fun h => V.xa (V.eo h 1 s1)
  ·exact V.z1 rfl fun h => V.xl (V.ed h 0 10 rfl) (V.lo h.g.1.2.2 rfl)
  ·exact V.z1 rfl fun h => V.x_len (V.ed h 1 11 rfl)
  ·exact V.z1 rfl fun h => V.xb (V.ed h 2 12 rfl) rfl
 intro f8 W9 e10
 clear h1 hb bg1
 obtain ⟨⟨h1, hb, bg1⟩, z_⟩ := e10.g
 obtain ⟨s0, s1, s2, s3⟩ := V.e4 e10 s0 s1 s2 s3
 have s13 := V.es e10 3 13 rfl
 clear e10 z_
 refine V.t_done rfl (V.nx ?_)
 have s13_ : f8 13 = .bool false := s13.trans (congrArg Value.bool (decide_eq_false (by omega)))
 refine V.cond_f (V.ev_tmp rfl s13_) ?_
 refine V.skip ?_
 refine V.nx (V.seq ?_)
 refine V.reg 1 [V.Nb W9 119 #[.int .u64 0]] [0] (V.i h1 (V.i hb bg1)) ?_ ?_
 ·refine V.ac ?_ V.an
  ·exact V.sn rfl fun f W h => V.x_alloc
 have o_g1 := bg1.lt
 have o_bel := hb.size
 intro f12 W13 e14
 clear h1 hb bg1
 obtain ⟨⟨h1, hb, bg1⟩, z_⟩ := e14.g
 obtain ⟨s0, s1, s2, s3⟩ := V.e4 e14 s0 s1 s2 s3
 obtain ⟨g11, s4, bg11, lg11⟩ := V.eq e14 0 4 rfl
 have mg11 := Nat.le_trans o_bel lg11
 have q1_11 : g1 ≠ g11 := by omega
 clear e14 z_
 clear o_bel o_g1
 refine V.t_done rfl (V.nx (V.seq (V.seq ?_)))
 refine V.reg 3 [V.E (Vp g1 1), V.E (Vs A m c), (fun v W => ∃ g15 : Nat, v = .func (.func 149) #[] #[Vp g15 0] ∧ Blk W g15 33 #[Vs A m c] ∧ (w.heap.size ≤ g15) ∧ (W13.heap.size ≤ g15))] [] (V.i h1 (V.i hb (V.i bg1 bg11))) ?_ ?_
 ·refine V.a3 ?_ ?_ ?_
  ·exact V.z1 rfl fun h => V.xa (V.eo h 1 s1)
  ·exact V.z1 rfl fun h => V.xl (V.ed h 0 14 rfl) (V.lo h.g.1.2.2.1 rfl)
  ·refine V.s2 rfl fun f W h => ?_
   refine V.call en120 (V.args1 (V.ed h 1 15 rfl)) (Calls.mono (down_any _ _ _ _) ?_)
   rintro e W' ⟨rfl, rfl⟩
   exact ⟨_, rfl, ⟨W.heap.size, rfl, Blk.new W _ _, h.g.1.2.1.size, h.g.2⟩, (Below.refl _ _).alloc (Nat.le_refl _) _⟩
 have o_g1 := bg1.lt
 have o_g11 := bg11.lt
 intro f16 W17 e18
 clear h1 hb bg1 bg11
 obtain ⟨⟨h1, hb, bg1, bg11⟩, z_⟩ := e18.g
 obtain ⟨s0, s1, s2, s3, s4⟩ := V.e5 e18 s0 s1 s2 s3 s4
 obtain ⟨g15, s16, r19, n20, n21⟩ := V.eq e18 2 16 rfl
 have q23 : g11 ≠ g15 := Nat.ne_of_lt (Nat.lt_of_lt_of_le o_g11 n21)
 clear e18 z_
 clear o_g1 o_g11
 refine V.t_done rfl (V.nx (V.block ?_))
 have hb0 := hb
 refine V.rf (V.ev_tmp rfl s16) en149 (down_iter g15 (Lb.limbs m).length c A W17 (by omega) ?keep) (fun h k => DownK.trans h k) DownK.sim ?hm ?hf (IntJ w A c m g1 g11) (IntA w A c m g1 g11) (fun k args f' => f' 6 = args[1]?.getD undef ∧ f' 4 = Vp g11 0) (IntJ w A c m g1 g11 (Lb.limbs m).length) ?i1 ?i2 ?i4 ?i5 ?i6 ?asg ?body ?fin ?done
 case hm => rintro k W W' args ⟨rfl, j, _, ad, _, x, _, rfl⟩; exact ⟨keeps_refl _ _, rfl⟩
 case hf => rintro k W W' ⟨_, rfl⟩; exact keeps_refl _ _
 case keep =>
  intro W2 hW
  refine ⟨?_, fun hn0 => ?_⟩
  ·exact ((r19.below hW r19.lt)).one
  ·obtain ⟨ad, e, hx⟩ := h1.some hn0
   refine ⟨ad, e, fun j hj => ⟨(((Lb.limbs m)[j]?.getD 0 : Nat) : Int), ?_⟩⟩
   exact (hW.cell (block_lt_of_cell (hx j hj))).trans (hx j hj)
 case i1 => rintro k W W' ⟨h1, h2, j, hj, h3⟩ hs; exact ⟨below_sim h1 hs hb.size, h2.sim hs, j, hj, h3.sim hs⟩
 case i2 => rintro k args W W' ⟨j, hj, h1, h2, h3, h4⟩ hs; exact ⟨j, hj, below_sim h1 hs hb.size, h2.sim hs, h3.sim hs, h4⟩
 case i4 => rintro W W' ⟨h1, h2, j, hj, h3⟩ hs; exact ⟨below_sim h1 hs hb.size, h2.sim hs, j, hj, h3.sim hs⟩
 case i5 =>
  intro W2 hW
  exact ⟨hb.trans (hW.mono hb.size), bg1.below hW bg1.lt, (Lb.limbs m).length, by omega, by rw [List.drop_length]; exact (bg11.below hW bg11.lt)⟩
 case i6 =>
  rintro k W2 W' args ⟨h1, h2, j, hj, h3⟩ ⟨rfl, j', hj', ad, e, x, hx, rfl⟩
  obtain rfl : j = j' + 1 := by omega
  refine ⟨j', by omega, h1, h2, h3, ?_⟩
  obtain ⟨ad', e', hx'⟩ := w_h1.some (by omega)
  rw [e] at e'; cases e'
  have := (h1.cell (block_lt_of_cell (hx' j' (by omega)))).trans (hx' j' (by omega))
  rw [this] at hx; cases hx; rfl
 case asg =>
  rintro l k args W2 ⟨j, hj, h1, h2, h3, rfl⟩ _
  obtain ⟨f2, e2, p1, p2, p3⟩ := V.params2 (n := Tryz.f83.ntmps) (p := 17) (q := 18) (f := f16) (a := .int .i64 (j : Int)) (b := .int .u16 (((Lb.limbs m)[j]?.getD 0 : Nat) : Int)) rfl rfl (by decide)
  rw [e2]
  refine wpIn_region_list (V.in_val rfl rfl rfl (V.xs (V.ev_tmp rfl p2)) fun f3 q1 q2 => wpListIn_nil ?_)
  exact ⟨keeps_refl _ _, fun x => x, ⟨j, hj, h1, h2, h3, rfl⟩, f3, rfl, q1, (q2 4 (by decide)).trans ((p3 4 (by decide) (by decide)).trans s4)⟩
 case body =>
  rintro l k args f2 W2 ⟨j, hj, h1, h2, h3, rfl⟩ ⟨p1, p2⟩
  have hx : (Lb.limbs m)[j]?.getD 0 < 65536 := Lb.ok_get (Lb.ok_limbs m) j
  have hv : Lb.val ((Lb.limbs m).drop (j + 1)) < 281474976710656 := Lb.drop_small h4
  have h5 := Lb.val_drop (Lb.limbs m) j
  refine wpIn_block (wpIn_region_list ?_)
  refine V.in_val (v := .int .u64 ((Lb.val ((Lb.limbs m).drop (j + 1)) : Nat) : Int)) rfl rfl rfl (V.xl (V.ev_tmp rfl p2) (V.lo h3 rfl (by kernel_rfl))) fun f3 a1 b1 => ?_
  refine V.in_val (v := .int .u64 (((Lb.val ((Lb.limbs m).drop (j + 1)) : Nat) : Int) * 65536)) rfl rfl rfl (V.xb (V.ev_tmp rfl a1) rfl (V.shl16 hv)) fun f4 a2 b2 => ?_
  refine V.in_val rfl rfl rfl (V.xm (V.ev_tmp rfl ((b2 6 (by decide)).trans ((b1 6 (by decide)).trans p1)))) fun f5 a3 b3 => ?_
  refine V.in_val (v := .int .u64 (((Lb.limbs m)[j]?.getD 0 : Nat) : Int)) rfl rfl rfl (V.x_convert (V.ev_tmp rfl a3) ((by kernel_rfl : _ = Result.ok (.int .u64 (IntKind.u64.wrap (((Lb.limbs m)[j]?.getD 0 : Nat) : Int))) _).trans (by rw [IntWalk.u64_in _ (by omega)]))) fun f6 a4 b4 => ?_
  refine V.in_val (v := .int .u64 ((Lb.val ((Lb.limbs m).drop j) : Nat) : Int)) rfl rfl rfl (V.xb (V.ev_tmp rfl ((b4 20 (by decide)).trans ((b3 20 (by decide)).trans a2))) (V.ev_tmp rfl a4) (V.or16 hv hx (by omega))) fun f7 a5 b5 => ?_
  refine V.in_skip rfl rfl rfl (V.x_store (V.ev_tmp rfl ((b5 4 (by decide)).trans ((b4 4 (by decide)).trans ((b3 4 (by decide)).trans ((b2 4 (by decide)).trans ((b1 4 (by decide)).trans p2)))))) (V.ev_tmp rfl a5) (V.st_one h3 (by kernel_rfl) (by kernel_rfl))) (wpListIn_nil ?_)
  refine ⟨keeps_setRow _ h3 _, downK_of w_h1 (below_setRow _ mg11) (World.cell?_of_block (V.setRow_far (Ne.symm q23))), V.bel_far h1 mg11, V.blk_far h2 q1_11, j, by omega, V.blk_same h3⟩
 case fin =>
  rintro k W2 W' ⟨h1, h2, j, hj, h3⟩ ⟨rfl, rfl⟩
  exact ⟨h1, h2, j, hj, h3⟩
 case done =>
  rintro D24 W26 hD ⟨hb, bg1, j, hj, bg11⟩ hK25
  obtain rfl : j = 0 := by omega
  rw [List.drop_zero, Lb.val_limbs] at bg11
  have hbs := Nat.le_trans hb0.size hD
  refine V.bn (V.nx (V.seq (V.block (V.seq ?_))))
  refine V.reg 7 [V.E (Vp g1 0), V.E (.bool false), V.E (.bool false), (V.Gd false (V.E (.int .u64 (m : Int)))), (V.Gd false (V.E (.bool (decide ((m : Int) ≤ 9223372036854775808))))), V.E (.bool false), V.E (.bool false)] [] (V.i hb (V.i bg1 (V.i bg11 hK25))) ?_ ?_
  ·refine V.a7 ?_ ?_ ?_ ?_ ?_ ?_ ?_
   ·exact V.z1 rfl fun h => V.xa (V.eo h 1 s1)
   ·exact V.z1 rfl fun h => V.xl (V.ed h 0 25 rfl) (V.lo h.g.1.2.1 rfl)
   ·exact V.me rfl 1 26 rfl
   ·exact V.gt 2 27 rfl rfl fun hp f W h => V.v1 (V.xl (V.eo h 4 s4) (V.lo h.g.1.2.2.1 rfl))
   ·exact V.gt 2 27 rfl rfl fun hp f W h => V.v1 (V.xb (V.eg h 3 28 rfl hp) rfl)
   ·refine V.s1 rfl fun f W h => ?_
    have d29 := V.dp h 4 29 (by kernel_rfl) rfl
    exact V.x_pick_f (V.ed h 2 27 rfl) rfl
   ·exact V.se rfl 5 30 rfl
  intro f27 W28 e29
  clear hb bg1 bg11 hK25
  obtain ⟨⟨hb, bg1, bg11, hK25⟩, z_⟩ := e29.g
  obtain ⟨s0, s1, s2, s3, s4⟩ := V.e5 e29 s0 s1 s2 s3 s4
  have s24 := V.es e29 6 24 rfl
  clear e29 z_
  refine V.t_done rfl (V.nx ?_)
  refine V.cond_f (V.ev_tmp rfl s24) ?_
  refine V.seq ?_
  refine V.reg 8 [V.E (Vp g1 0), V.E (.bool false), V.E (.bool true), V.E (.bool true), (V.Gd true (V.E (.int .u64 (m : Int)))), (V.Gd true (V.E (.bool (decide ((m : Int) < 9223372036854775808))))), V.E (.bool (decide ((m : Int) < 9223372036854775808))), V.E (.bool (decide ((m : Int) < 9223372036854775808)))] [] (V.i hb (V.i bg1 (V.i bg11 hK25))) ?_ ?_
  ·refine V.a8 ?_ ?_ ?_ ?_ ?_ ?_ ?_ ?_
   ·exact V.z1 rfl fun h => V.xa (V.eo h 1 s1)
   ·exact V.z1 rfl fun h => V.xl (V.ed h 0 35 rfl) (V.lo h.g.1.2.1 rfl)
   ·exact V.z1 rfl fun h => V.x_un (V.ed h 1 36 rfl)
   ·exact V.me rfl 2 37 rfl
   ·exact V.gt 3 38 rfl rfl fun hp f W h => V.v1 (V.xl (V.eo h 4 s4) (V.lo h.g.1.2.2.1 rfl))
   ·exact V.gt 3 38 rfl rfl fun hp f W h => V.v1 (V.xb (V.eg h 4 39 rfl hp) rfl)
   ·refine V.s1 rfl fun f W h => ?_
    have d40 := V.dp h 5 40 (by kernel_rfl) rfl
    exact V.x_pick_t (V.ed h 3 38 rfl) (V.ev_tmp rfl (V.gd_on d40 rfl))
   ·exact V.se rfl 6 41 rfl
  intro f30 W31 e32
  clear hb bg1 bg11 hK25
  obtain ⟨⟨hb, bg1, bg11, hK25⟩, z_⟩ := e32.g
  obtain ⟨s0, s2, s3, s4⟩ := V.e4 e32 s0 s2 s3 s4
  have s34 := V.es e32 7 34 rfl
  clear e32 z_
  refine V.t_done rfl (V.nx ?_)
  have s34_ : f30 34 = .bool true := s34.trans (congrArg Value.bool (decide_eq_true (by omega)))
  refine V.cond_t (V.ev_tmp rfl s34_) ?_
  refine V.seq ?_
  clear bg1
  refine V.reg 4 [V.E (.int .u64 (m : Int)), V.E (.int .i64 (m : Int)), V.E (.int .i64 (m : Int)), V.E (.int .i64 0)] [] (V.i hb (V.i bg11 hK25)) ?_ ?_
  ·refine V.a4 ?_ ?_ ?_ ?_
   ·exact V.z1 rfl fun h => V.xl (V.eo h 4 s4) (V.lo h.g.1.2.1 rfl)
   ·refine V.s1 rfl fun f W h => ?_
    have hw33 : IntKind.i64.wrap ((m : Int)) = (m : Int) := by exact IntWalk.i64_in _ (by omega)
    exact V.x_convert (V.ed h 0 42 rfl) ((by kernel_rfl : _ = Result.ok (.int .i64 (IntKind.i64.wrap ((m : Int)))) _).trans (by rw [hw33]))
   ·exact V.se rfl 1 43 rfl
   ·exact V.z1 rfl fun h => V.xs rfl
  intro f34 W35 e36
  clear hb bg11 hK25
  obtain ⟨⟨hb, bg11, hK25⟩, z_⟩ := e36.g
  replace s0 := V.e1 e36 s0
  have s2 := V.es e36 2 2 rfl
  have s3 := V.es e36 3 3 rfl
  clear e36 z_
  refine V.t_done rfl (V.nx (V.ret (V.br (V.tr ?_))))
  refine V.leaveM1 (.inl rfl) hK25 (V.res_tmp2 rfl rfl rfl s2 s3) ?_
  exact ⟨rfl, below_putObj hb hbs _⟩
theorem en83 : En 83 := en_ Tryz.func83
theorem Int_m {A A' : Option Addr} {c c' m : Nat} {w : World} (h1 : R16 w A (Lb.limbs m).length c (Lb.limbs m)) (h2 : R16 w A' (Lb.limbs 1).length c' (Lb.limbs 1)) (h4 : (Lb.limbs m).length ≤ 3) :
    Calls Tryz.prog 43 #[.agg #[.bool false, Vs A m c, .bool false, Vs A' 1 c']] w fun e w' => e = .returned (.tuple #[.int .i64 (m : Int), .int .i64 0]) ∧ Below w.heap.size w w' := by
 have k1 : Nv false m := ⟨fun _ => rfl, by omega⟩
 have k2 : Nv false 1 := ⟨fun _ => rfl, by decide⟩
 have hd := Q.lim1
 have hf : (decide (((Lb.limbs m).length : Int) ≤ 256) && decide (((Lb.limbs 1).length : Int) ≤ 256)) = true := by rw [decide_eq_true (by omega)]; decide
 refine V.nt Tryz.func43 rfl rfl fun f0 hf => ?_
 have s0 : f0 0 = .agg #[.bool false, Vs A m c, .bool false, Vs A' 1 c'] := hf 0 (by simp)
 clear hf
 have hb := Below.refl w.heap.size w
 refine V.seq ?_
 refine V.reg 3 [V.Nb w 39 #[.bool false, Vs A m c, .bool false, Vs A' 1 c'], V.E (.int .i64 0), V.E (.int .i64 0)] [0] (V.i h1 (V.i h2 hb)) ?_ ?_
 ·refine V.a3 ?_ ?_ ?_
  ·exact V.sn rfl fun f W h => V.x_box (V.eo h 0 s0)
  ·exact V.z1 rfl fun h => V.xs rfl
  ·exact V.z1 rfl fun h => V.xs rfl
 have o_bel := hb.size
 intro f2 W3 e4
 clear h1 h2 hb
 obtain ⟨⟨h1, h2, hb⟩, z_⟩ := e4.g
 replace s0 := V.e1 e4 s0
 obtain ⟨g1, s1, bg1, lg1⟩ := V.eq e4 0 1 rfl
 have s2 := V.es e4 1 2 rfl
 have s3 := V.es e4 2 3 rfl
 clear e4 z_
 clear o_bel
 refine V.t_done rfl (V.nx (V.seq (V.block (V.seq ?_))))
 refine V.reg 4 [V.E (.agg #[.bool false, Vs A m c, .bool false, Vs A' 1 c']), V.E (.bool (decide (Nat.gcd m 1 = 1))), V.E (.bool (!(decide (Nat.gcd m 1 = 1)))), V.E (.bool (!(decide (Nat.gcd m 1 = 1))))] [] (V.i h1 (V.i h2 (V.i hb bg1))) ?_ ?_
 ·refine V.a4 ?_ ?_ ?_ ?_
  ·exact V.z1 rfl fun h => V.xl (V.eo h 1 s1) (V.lr h.g.1.2.2.2 Tryz.underlying39)
  ·refine V.s2 rfl fun f W h => ?_
   refine V.call en25 (V.args1 (V.ed h 0 5 rfl)) (Calls.mono (Valid_nf h.g.1.1 h.g.1.2.1 k1 k2 hf hd) ?_)
   rintro e W' ⟨rfl, hb⟩
   exact ⟨_, rfl, rfl, hb⟩
  ·exact V.z1 rfl fun h => V.x_un (V.ed h 1 6 rfl)
  ·exact V.se rfl 2 7 rfl
 intro f5 W6 e7
 clear h1 h2 hb bg1
 obtain ⟨⟨h1, h2, hb, bg1⟩, z_⟩ := e7.g
 obtain ⟨s0, s1, s2, s3⟩ := V.e4 e7 s0 s1 s2 s3
 have s4 := V.es e7 3 4 rfl
 clear e7 z_
 refine V.t_done rfl (V.nx ?_)
 have s4_ : f5 4 = .bool false := s4.trans (congrArg Value.bool (by simp))
 refine V.cond_f (V.ev_tmp rfl s4_) ?_
 refine V.seq ?_
 refine V.reg 5 [V.E (Vp g1 2), V.E (.agg #[.bool false, Vs A' 1 c']), V.E (.bool (!false && decide (1 = 1))), V.E (.bool (!(!false && decide (1 = 1)))), V.E (.bool (!(!false && decide (1 = 1))))] [] (V.i h1 (V.i h2 (V.i hb bg1))) ?_ ?_
 ·refine V.a5 ?_ ?_ ?_ ?_ ?_
  ·exact V.z1 rfl fun h => V.xa (V.eo h 1 s1)
  ·exact V.z1 rfl fun h => V.xl (V.ed h 0 9 rfl) (V.ld_mid (xs := [.bool false, Vs A' 1 c']) h.g.1.2.2.2 (by intro j hj; match j, hj with | 0, _ => rfl | 1, _ => rfl) Tryz.underlying35)
  ·refine V.s2 rfl fun f W h => ?_
   refine V.call en62 (V.args1 (V.ed h 1 10 rfl)) (Calls.mono (isOne_nn h.g.1.2.1) ?_)
   rintro e W' ⟨rfl, hb⟩
   exact ⟨_, rfl, rfl, hb⟩
  ·exact V.z1 rfl fun h => V.x_un (V.ed h 2 11 rfl)
  ·exact V.se rfl 3 12 rfl
 intro f8 W9 e10
 clear h1 h2 hb bg1
 obtain ⟨⟨h1, h2, hb, bg1⟩, z_⟩ := e10.g
 obtain ⟨s0, s1, s2, s3⟩ := V.e4 e10 s0 s1 s2 s3
 have s8 := V.es e10 4 8 rfl
 clear e10 z_
 refine V.t_done rfl (V.nx ?_)
 have s8_ : f8 8 = .bool false := s8.trans (congrArg Value.bool (by simp))
 refine V.cond_f (V.ev_tmp rfl s8_) ?_
 refine V.skip ?_
 refine V.bn (V.nx (V.seq ?_))
 refine V.reg 7 [V.E (Vp g1 0), V.E (.agg #[.bool false, Vs A m c]), V.E (.tuple #[.int .i64 (m : Int), .int .i64 0]), V.E (.int .i64 (m : Int)), V.E (.int .i64 0), V.E (.int .i64 (m : Int)), V.E (.int .i64 0)] [] (V.i h1 (V.i h2 (V.i hb bg1))) ?_ ?_
 ·refine V.a7 ?_ ?_ ?_ ?_ ?_ ?_ ?_
  ·exact V.z1 rfl fun h => V.xa (V.eo h 1 s1)
  ·exact V.z1 rfl fun h => V.xl (V.ed h 0 13 rfl) (V.ld_mid (xs := [.bool false, Vs A m c]) h.g.1.2.2.2 (by intro j hj; match j, hj with | 0, _ => rfl | 1, _ => rfl) Tryz.underlying35)
  ·refine V.s2 rfl fun f W h => ?_
   refine V.call en83 (V.args1 (V.ed h 1 14 rfl)) (Calls.mono (WInt_nn h.g.1.1 h4) ?_)
   rintro e W' ⟨rfl, hb⟩
   exact ⟨_, rfl, rfl, hb⟩
  ·exact V.z1 rfl fun h => V.xe (V.ed h 2 15 rfl)
  ·exact V.z1 rfl fun h => V.xe (V.ed h 2 15 rfl)
  ·exact V.se rfl 3 16 rfl
  ·exact V.se rfl 4 17 rfl
 intro f11 W12 e13
 clear h1 h2 hb bg1
 obtain ⟨⟨h1, h2, hb, bg1⟩, z_⟩ := e13.g
 replace s0 := V.e1 e13 s0
 have s2 := V.es e13 5 2 rfl
 have s3 := V.es e13 6 3 rfl
 clear e13 z_
 refine V.t_done rfl (V.nx (V.ret ?_))
 refine V.leave_any (.inl rfl) (V.res_tmp2 rfl rfl rfl s2 s3) ?_
 exact ⟨rfl, hb⟩
theorem Int_s {x : Fr} {w : World} {z : Int} (hx : Fr.ok w x) (hz : x.q = (z : Rat)) (h0 : 0 ≤ z) (h1 : z ≤ 1099511627776) :
    Calls Tryz.prog 43 #[x.v] w fun e w' => e = .returned (.tuple #[.int .i64 z, .int .i64 0]) ∧ Below w.heap.size w w' := by
  have a := hx.n
  have b := hx.d
  rw [hz, Q.int_m] at a
  rw [hz, Q.int_den] at b
  have h := Int_m a b (Lb.limbs_length_le.2 (by omega))
  unfold Fr.v
  rw [hz, Q.int_neg, Q.int_m, Q.int_den, decide_eq_false (by omega)]
  rw [show ((z.natAbs : Nat) : Int) = z by omega] at h
  exact h
theorem Or2 {g : Nat} {a b : Int} {w : World} (hg : Blk w g 3 #[.int .i64 a, .int .i64 b]) :
    Calls Tryz.prog 86 #[.slice (some ⟨g, 0, none⟩) 2 2] w fun e w' => e = .returned (.int .i64 (if a ≠ 0 then a else b)) ∧ Below w.heap.size w w' := by
 refine V.nt Tryz.func86 rfl rfl fun f0 hf => ?_
 have s0 : f0 0 = .slice (some ⟨g, 0, none⟩) 2 2 := hf 0 (by simp)
 clear hf
 have hb := Below.refl w.heap.size w
 refine V.seq ?_
 refine V.reg 1 [V.E (.int .i64 0)] [] (V.i hg hb) ?_ ?_
 ·refine V.ac ?_ V.an
  ·exact V.z1 rfl fun h => V.xs rfl
 intro f14 W15 e16
 clear hg hb
 obtain ⟨⟨hg, hb⟩, z_⟩ := e16.g
 replace s0 := V.e1 e16 s0
 have s2 := V.es e16 0 2 rfl
 clear e16 z_
 refine V.t_done rfl (V.nx (V.seq ?_))
 refine V.reg 1 [V.E (.int .i64 0)] [] (V.i hg hb) ?_ ?_
 ·refine V.ac ?_ V.an
  ·exact V.z1 rfl fun h => V.xs rfl
 intro f17 W18 e19
 clear hg hb
 obtain ⟨⟨hg, hb⟩, z_⟩ := e19.g
 obtain ⟨s0, s2⟩ := V.e2 e19 s0 s2
 have s3 := V.es e19 0 3 rfl
 clear e19 z_
 refine V.t_done rfl (V.nx (V.seq (V.seq ?_)))
 refine V.reg 3 [V.E (.slice (some ⟨g, 0, none⟩) 2 2), V.E (.int .i64 2), V.E (.int .i64 0)] [] (V.i hg hb) ?_ ?_
 ·refine V.a3 ?_ ?_ ?_
  ·exact V.mo rfl 0 s0
  ·exact V.z1 rfl fun h => V.x_len (V.ed h 0 6 rfl)
  ·exact V.z1 rfl fun h => V.xm rfl
 intro f20 W21 e22
 clear hg hb
 obtain ⟨⟨hg, hb⟩, z_⟩ := e22.g
 obtain ⟨s0, s2, s3⟩ := V.e3 e22 s0 s2 s3
 have s6 := V.es e22 0 6 rfl
 have s7 := V.es e22 1 7 rfl
 have s8 := V.es e22 2 8 rfl
 clear e22 z_
 refine V.t_done rfl (V.nx (V.block ?_))
 refine V.loop (fun k f W => ∃ j : Nat, (k = 2 - j ∧ (j ≤ 2) ∧ (1 ≤ j → a = 0) ∧ (2 ≤ j → b = 0)) ∧ (f 3 = .int .i64 0 ∧ f 6 = .slice (some ⟨g, 0, none⟩) 2 2 ∧ f 7 = .int .i64 2 ∧ f 8 = .int .i64 (j : Int)) ∧ (Blk W g 3 #[.int .i64 a, .int .i64 b] ∧ Below w.heap.size w W)) (2 - 0) ⟨0, ⟨rfl, by omega, by omega, by omega⟩, ⟨s3, s6, s7, (s8.trans (by simp))⟩, ⟨hg, hb⟩⟩ ?_
 clear hg hb s0 s2 s3 s6 s7 s8
 rintro k25 f23 W24 ⟨j, ⟨hk26, hj, ha, hb_⟩, ⟨s3, s6, s7, s8⟩, ⟨hg, hb⟩⟩
 rcases (by omega : j = 0 ∨ j = 1 ∨ j = 2) with rfl | rfl | rfl
 ·skip
  replace s8 : f23 8 = .int .i64 0 := s8
  refine V.seq ?_
  refine V.reg 1 [V.E (.bool (decide (0 < 2)))] [] (V.i hg hb) ?_ ?_
  ·refine V.ac ?_ V.an
   ·exact V.z1 rfl fun h => V.xb (V.eo h 8 s8) (V.eo h 7 s7)
  intro f27 W28 e29
  clear hg hb
  obtain ⟨⟨hg, hb⟩, z_⟩ := e29.g
  obtain ⟨s3, s6, s7, s8⟩ := V.e4 e29 s3 s6 s7 s8
  have s9 := V.es e29 0 9 rfl
  clear e29 z_
  refine V.t_done rfl (V.nx (V.seq ?_))
  have s9_ : f27 9 = .bool true := s9.trans (congrArg Value.bool (by simp))
  refine V.cond_t (V.ev_tmp rfl s9_) ?_
  refine V.skip ?_
  refine V.nx (V.seq (V.block (V.seq ?_)))
  refine V.reg 3 [V.E (Vp g 0), V.E (.int .i64 a), V.E (.int .i64 a)] [] (V.i hg hb) ?_ ?_
  ·refine V.a3 ?_ ?_ ?_
   ·exact V.z1 rfl fun h => V.x_indexAddr (V.eo h 6 s6) (V.eo h 8 s8) (by kernel_rfl)
   ·exact V.z1 rfl fun h => V.xl (V.ed h 0 10 rfl) (V.lo h.g.1.1 rfl)
   ·exact V.se rfl 1 11 rfl
  intro f30 W31 e32
  clear hg hb
  obtain ⟨⟨hg, hb⟩, z_⟩ := e32.g
  obtain ⟨s3, s6, s7, s8⟩ := V.e4 e32 s3 s6 s7 s8
  have s5 := V.es e32 2 5 rfl
  clear e32 z_
  refine V.t_done rfl (V.nx (V.seq ?_))
  refine V.reg 3 [V.E (.int .i64 a), V.E (.int .i64 0), V.E (.bool (a != (0 : Int)))] [] (V.i hg hb) ?_ ?_
  ·refine V.a3 ?_ ?_ ?_
   ·exact V.mo rfl 5 s5
   ·exact V.mo rfl 3 s3
   ·exact V.z1 rfl fun h => V.xb (V.ed h 0 12 rfl) (V.ed h 1 13 rfl)
  intro f33 W34 e35
  clear hg hb
  obtain ⟨⟨hg, hb⟩, z_⟩ := e35.g
  obtain ⟨s3, s6, s7, s8, s5⟩ := V.e5 e35 s3 s6 s7 s8 s5
  have s14 := V.es e35 2 14 rfl
  clear e35 z_
  refine V.t_done rfl (V.nx ?_)
  cases hc36 : (a != (0 : Int))
  ·have s14_ : f33 14 = .bool false := s14.trans (by rw [hc36])
   refine V.cond_f (V.ev_tmp rfl s14_) ?_
   have hx0 := hc36
   refine V.skip ?_
   refine V.bn (V.nx ?_)
   refine V.reg 2 [V.E (.int .i64 (0 + 1)), V.E (.int .i64 (0 + 1))] [] (V.i hg hb) ?_ ?_
   ·refine V.a2 ?_ ?_
    ·refine V.s1 rfl fun f W h => ?_
     have hw37 : IntKind.i64.wrap (0 + 1) = 0 + 1 := by exact IntWalk.i64_in _ (by omega)
     exact V.xb (V.eo h 8 s8) rfl ((by kernel_rfl : _ = Result.ok (.int .i64 (IntKind.i64.wrap (0 + 1))) _).trans (by rw [hw37]))
    ·exact V.me rfl 0 16 rfl
   intro f38 W39 e40
   clear hg hb
   obtain ⟨⟨hg, hb⟩, z_⟩ := e40.g
   obtain ⟨s3, s6, s7⟩ := V.e3 e40 s3 s6 s7
   have s8 := V.es e40 1 8 rfl
   clear e40 z_
   refine V.t_done rfl ?_
   refine V.handed (2 - 1) (by have := hk26; omega) ⟨1, ⟨rfl, by omega, by simpa using hx0, by omega⟩, ⟨s3, s6, s7, (s8.trans (by simp))⟩, ⟨hg, hb⟩⟩
  ·have s14_ : f33 14 = .bool true := s14.trans (by rw [hc36])
   refine V.cond_t (V.ev_tmp rfl s14_) ?_
   have hx0 := hc36
   refine V.seq ?_
   refine V.reg 2 [V.E (.int .i64 a), V.E (.int .i64 a)] [] (V.i hg hb) ?_ ?_
   ·refine V.a2 ?_ ?_
    ·exact V.mo rfl 5 s5
    ·exact V.se rfl 0 15 rfl
   intro f41 W42 e43
   clear hg hb
   obtain ⟨⟨hg, hb⟩, z_⟩ := e43.g
   obtain ⟨s3, s6, s7, s8⟩ := V.e4 e43 s3 s6 s7 s8
   have s2 := V.es e43 1 2 rfl
   clear e43 z_
   refine V.t_done rfl (V.nx (V.ret (V.br (V.tr (V.tr (V.br (V.tr ?_)))))))
   refine V.leave_any (.inl rfl) (V.res_tmp rfl rfl s2) ?_
   exact ⟨by rw [if_pos (by simpa using hx0)], hb⟩
 ·skip
  replace s8 : f23 8 = .int .i64 1 := s8
  refine V.seq ?_
  refine V.reg 1 [V.E (.bool (decide (1 < 2)))] [] (V.i hg hb) ?_ ?_
  ·refine V.ac ?_ V.an
   ·exact V.z1 rfl fun h => V.xb (V.eo h 8 s8) (V.eo h 7 s7)
  intro f44 W45 e46
  clear hg hb
  obtain ⟨⟨hg, hb⟩, z_⟩ := e46.g
  obtain ⟨s3, s6, s7, s8⟩ := V.e4 e46 s3 s6 s7 s8
  have s9 := V.es e46 0 9 rfl
  clear e46 z_
  refine V.t_done rfl (V.nx (V.seq ?_))
  have s9_ : f44 9 = .bool true := s9.trans (congrArg Value.bool (by simp))
  refine V.cond_t (V.ev_tmp rfl s9_) ?_
  refine V.skip ?_
  refine V.nx (V.seq (V.block (V.seq ?_)))
  refine V.reg 3 [V.E (Vp g 1), V.E (.int .i64 b), V.E (.int .i64 b)] [] (V.i hg hb) ?_ ?_
  ·refine V.a3 ?_ ?_ ?_
   ·exact V.z1 rfl fun h => V.x_indexAddr (V.eo h 6 s6) (V.eo h 8 s8) (by kernel_rfl)
   ·exact V.z1 rfl fun h => V.xl (V.ed h 0 10 rfl) (V.lo h.g.1.1 rfl)
   ·exact V.se rfl 1 11 rfl
  intro f47 W48 e49
  clear hg hb
  obtain ⟨⟨hg, hb⟩, z_⟩ := e49.g
  obtain ⟨s3, s6, s7, s8⟩ := V.e4 e49 s3 s6 s7 s8
  have s5 := V.es e49 2 5 rfl
  clear e49 z_
  refine V.t_done rfl (V.nx (V.seq ?_))
  refine V.reg 3 [V.E (.int .i64 b), V.E (.int .i64 0), V.E (.bool (b != (0 : Int)))] [] (V.i hg hb) ?_ ?_
  ·refine V.a3 ?_ ?_ ?_
   ·exact V.mo rfl 5 s5
   ·exact V.mo rfl 3 s3
   ·exact V.z1 rfl fun h => V.xb (V.ed h 0 12 rfl) (V.ed h 1 13 rfl)
  intro f50 W51 e52
  clear hg hb
  obtain ⟨⟨hg, hb⟩, z_⟩ := e52.g
  obtain ⟨s3, s6, s7, s8, s5⟩ := V.e5 e52 s3 s6 s7 s8 s5
  have s14 := V.es e52 2 14 rfl
  clear e52 z_
  refine V.t_done rfl (V.nx ?_)
  cases hc53 : (b != (0 : Int))
  ·have s14_ : f50 14 = .bool false := s14.trans (by rw [hc53])
   refine V.cond_f (V.ev_tmp rfl s14_) ?_
   have hx1 := hc53
   refine V.skip ?_
   refine V.bn (V.nx ?_)
   refine V.reg 2 [V.E (.int .i64 (1 + 1)), V.E (.int .i64 (1 + 1))] [] (V.i hg hb) ?_ ?_
   ·refine V.a2 ?_ ?_
    ·refine V.s1 rfl fun f W h => ?_
     have hw54 : IntKind.i64.wrap (1 + 1) = 1 + 1 := by exact IntWalk.i64_in _ (by omega)
     exact V.xb (V.eo h 8 s8) rfl ((by kernel_rfl : _ = Result.ok (.int .i64 (IntKind.i64.wrap (1 + 1))) _).trans (by rw [hw54]))
    ·exact V.me rfl 0 16 rfl
   intro f55 W56 e57
   clear hg hb
   obtain ⟨⟨hg, hb⟩, z_⟩ := e57.g
   obtain ⟨s3, s6, s7⟩ := V.e3 e57 s3 s6 s7
   have s8 := V.es e57 1 8 rfl
   clear e57 z_
   refine V.t_done rfl ?_
   refine V.handed (2 - 2) (by have := hk26; omega) ⟨2, ⟨rfl, by omega, fun _ => ha (by omega), by simpa using hx1⟩, ⟨s3, s6, s7, (s8.trans (by simp))⟩, ⟨hg, hb⟩⟩
  ·have s14_ : f50 14 = .bool true := s14.trans (by rw [hc53])
   refine V.cond_t (V.ev_tmp rfl s14_) ?_
   have hx1 := hc53
   refine V.seq ?_
   refine V.reg 2 [V.E (.int .i64 b), V.E (.int .i64 b)] [] (V.i hg hb) ?_ ?_
   ·refine V.a2 ?_ ?_
    ·exact V.mo rfl 5 s5
    ·exact V.se rfl 0 15 rfl
   intro f58 W59 e60
   clear hg hb
   obtain ⟨⟨hg, hb⟩, z_⟩ := e60.g
   obtain ⟨s3, s6, s7, s8⟩ := V.e4 e60 s3 s6 s7 s8
   have s2 := V.es e60 1 2 rfl
   clear e60 z_
   refine V.t_done rfl (V.nx (V.ret (V.br (V.tr (V.tr (V.br (V.tr ?_)))))))
   refine V.leave_any (.inl rfl) (V.res_tmp rfl rfl s2) ?_
   exact ⟨by rw [if_neg (by have := ha (by omega); omega)], hb⟩
 ·skip
  replace s8 : f23 8 = .int .i64 2 := s8
  refine V.seq ?_
  refine V.reg 1 [V.E (.bool (decide (2 < 2)))] [] (V.i hg hb) ?_ ?_
  ·refine V.ac ?_ V.an
   ·exact V.z1 rfl fun h => V.xb (V.eo h 8 s8) (V.eo h 7 s7)
  intro f61 W62 e63
  clear hg hb
  obtain ⟨⟨hg, hb⟩, z_⟩ := e63.g
  obtain ⟨s3, s6, s7, s8⟩ := V.e4 e63 s3 s6 s7 s8
  have s9 := V.es e63 0 9 rfl
  clear e63 z_
  refine V.t_done rfl (V.nx (V.seq ?_))
  have s9_ : f61 9 = .bool false := s9.trans (congrArg Value.bool (by simp))
  refine V.cond_f (V.ev_tmp rfl s9_) ?_
  refine V.exit (V.tx (V.tx (V.bx (V.nx (V.seq ?_)))))
  refine V.reg 2 [V.E (.int .i64 0), V.E (.int .i64 0)] [] (V.i hg hb) ?_ ?_
  ·refine V.a2 ?_ ?_
   ·exact V.mo rfl 3 s3
   ·exact V.se rfl 0 17 rfl
  intro f64 W65 e66
  clear hg hb
  obtain ⟨⟨hg, hb⟩, z_⟩ := e66.g
  have s2 := V.es e66 1 2 rfl
  clear e66 z_
  refine V.t_done rfl (V.nx (V.ret ?_))
  refine V.leave_any (.inl rfl) (V.res_tmp rfl rfl s2) ?_
  exact ⟨by rw [if_neg (by have := ha (by omega); omega), hb_ (by omega)], hb⟩
theorem en85 : En 85 := en_ Tryz.func85
theorem en86 : En 86 := en_ Tryz.func86
theorem en87 : En 87 := en_ Tryz.func87
abbrev NatC (a : Nat) : List Value := [.int .i64 (a : Int)]
def qa (xs : List Fr) (i : Nat) : Rat := ((xs[i]?).map Fr.q).getD 0
def cmpM (xs : List Fr) (a b : Nat) : Int := if Q.cmp (qa xs b) (qa xs a) ≠ 0 then Q.cmp (qa xs b) (qa xs a) else Lib.compareInt (a : Int) (b : Int)
def ltM (xs : List Fr) (a b : Nat) : Bool := decide (cmpM xs a b < 0)
theorem Q.cmp_zero {a b : Rat} : Q.cmp a b = 0 ↔ a = b := by
  unfold Q.cmp
  split
  · rename_i h; simp; intro e; rw [e] at h; exact absurd h Rat.lt_irrefl
  · split <;> simp_all
theorem ltM_iff (xs : List Fr) (a b : Nat) : ltM xs a b = true ↔ qa xs b < qa xs a ∨ (qa xs b = qa xs a ∧ a < b) := by
  unfold ltM cmpM
  rw [decide_eq_true_iff]
  by_cases h : Q.cmp (qa xs b) (qa xs a) = 0
  · rw [if_neg (by simpa using h)]
    have e := Q.cmp_zero.1 h
    rw [e]
    have h1 : ¬ (qa xs a < qa xs a) := Rat.lt_irrefl
    unfold Lib.compareInt
    simp only [h1, false_or, true_and]
    split <;> (try split) <;> omega
  · rw [if_pos h, Q.cmp_lt]
    have h2 : ¬ (qa xs b = qa xs a) := fun e => h (Q.cmp_zero.2 e)
    simp [h2]
theorem ltM_asym {xs : List Fr} {a b : Nat} (h : ltM xs a b = true) : ltM xs b a = false := by
  rw [← Bool.not_eq_true, ltM_iff]
  rw [ltM_iff] at h
  generalize qa xs a = p at *
  generalize qa xs b = q at *
  grind
theorem ltM_tr {xs : List Fr} {x y z : Nat} (h : ltM xs y x = false) (h' : ltM xs z y = false) : ltM xs z x = false := by
  rw [← Bool.not_eq_true, ltM_iff] at *
  generalize qa xs x = p at *
  generalize qa xs y = q at *
  generalize qa xs z = r at *
  grind
theorem nl_nats (l : List Nat) (rest : List Value) (h : rest.all noLimb = true) : (((l.map NatC).flatten ++ rest).toArray).all noLimb = true := by
  rw [← Array.all_toList, List.toList_toArray, List.all_append, h, Bool.and_true]
  induction l with
  | nil => rfl
  | cons a l ih => rw [List.map_cons, List.flatten_cons, List.all_append, ih]; rfl
theorem most_cmp {A : Option Addr} {c p : Nat} {xs : List Fr} {w : World} (hp : Blk w p 29 #[.slice A xs.length c]) (hl : Ls w 4 A xs.length c (xs.map Fr.cells)) (hfr : ∀ x ∈ xs, Fr.ok w x) (hs : ∀ x ∈ xs, Q.Sz 256 x.q) {a b : Nat} (ha : a < xs.length) (hb0 : b < xs.length) :
    Calls Tryz.prog 85 #[.int .i64 (a : Int), .int .i64 (b : Int), Vp p 0] w fun e w' => e = .returned (.int .i64 (cmpM xs a b)) ∧ Below w.heap.size w w' := by
 obtain ⟨x, mx, ex, ex_⟩ := V.at_map Fr.cells (l := xs) (i := a) ha
 obtain ⟨y, my, ey, ey_⟩ := V.at_map Fr.cells (l := xs) (i := b) hb0
 have hqa : qa xs a = x.q := by simp [qa, ex]
 have hqb : qa xs b = y.q := by simp [qa, ey]
 have fx := hfr x mx
 have fy := hfr y my
 refine V.nt Tryz.func85 rfl rfl fun f0 hf => ?_
 have s0 : f0 0 = .int .i64 (a : Int) := hf 0 (by simp)
 have s1 : f0 1 = .int .i64 (b : Int) := hf 1 (by simp)
 have s2 : f0 2 = Vp p 0 := hf 2 (by simp)
 clear hf
 have hb := Below.refl w.heap.size w
 refine V.seq ?_
 refine V.reg 1 [V.E (.int .i64 0)] [] (V.i hp (V.i hl (V.i hfr (V.i fx (V.i fy hb))))) ?_ ?_
 ·refine V.ac ?_ V.an
  ·exact V.z1 rfl fun h => V.xs rfl
 intro f1 W2 e3
 clear hp hl hfr fx fy hb
 obtain ⟨⟨hp, hl, hfr, fx, fy, hb⟩, z_⟩ := e3.g
 obtain ⟨s0, s1, s2⟩ := V.e3 e3 s0 s1 s2
 have s5 := V.es e3 0 5 rfl
 clear e3 z_
 refine V.t_done rfl (V.nx (V.seq ?_))
 refine V.reg 15 [V.E (.slice A xs.length c), V.E (.int .i64 (b : Int)), V.E (.pointer (some ((adr A).add (b * 4 + 0)))), V.E (y.v), V.E (.slice A xs.length c), V.E (.int .i64 (a : Int)), V.E (.pointer (some ((adr A).add (a * 4 + 0)))), V.E (x.v), V.E (.int .i64 (Q.cmp y.q x.q)), V.E (.int .i64 (a : Int)), V.E (.int .i64 (b : Int)), V.E (.int .i64 (Lib.compareInt (a : Int) (b : Int))), (fun v W => ∃ g5 : Nat, v = .slice (some ⟨g5, 0, none⟩) 2 2 ∧ Blk W g5 3 #[.int .i64 (Q.cmp y.q x.q), .int .i64 (Lib.compareInt (a : Int) (b : Int))] ∧ (w.heap.size ≤ g5)), V.E (.int .i64 (if (Q.cmp y.q x.q) ≠ 0 then (Q.cmp y.q x.q) else (Lib.compareInt (a : Int) (b : Int)))), V.E (.int .i64 (if (Q.cmp y.q x.q) ≠ 0 then (Q.cmp y.q x.q) else (Lib.compareInt (a : Int) (b : Int))))] [] (V.i hp (V.i hl (V.i hfr (V.i fx (V.i fy hb))))) ?_ ?_
 ·refine V.b8 ?_ ?_ ?_ ?_ ?_ ?_ ?_ ?_ (V.a7 ?_ ?_ ?_ ?_ ?_ ?_ ?_)
  ·exact V.z1 rfl fun h => V.xl (V.eo h 2 s2) (V.lo h.g.1.1 rfl)
  ·exact V.mo rfl 1 s1
  ·exact V.z1 rfl fun h => V.xi (i := b) h.g.1.2.1 ey_ (V.ed h 0 6 rfl) (V.ed h 1 7 rfl)
  ·exact V.z1 rfl fun h => V.xl (V.ed h 2 8 rfl) (V.ld_lsE (i := b) (o := 0) (cs := [.bool (Q.neg y.q), Vs y.A (Q.m y.q) y.c, .bool false, Vs y.A' y.q.den y.c']) h.g.1.2.1 ey_ Tryz.underlying39)
  ·exact V.z1 rfl fun h => V.xl (V.eo h 2 s2) (V.lo h.g.1.1 rfl)
  ·exact V.mo rfl 0 s0
  ·exact V.z1 rfl fun h => V.xi (i := a) h.g.1.2.1 ex_ (V.ed h 4 10 rfl) (V.ed h 5 11 rfl)
  ·exact V.z1 rfl fun h => V.xl (V.ed h 6 12 rfl) (V.ld_lsE (i := a) (o := 0) (cs := [.bool (Q.neg x.q), Vs x.A (Q.m x.q) x.c, .bool false, Vs x.A' x.q.den x.c']) h.g.1.2.1 ex_ Tryz.underlying39)
  ·refine V.s2 rfl fun f W h => ?_
   refine V.call en19 (V.args2 (V.ed h 3 9 rfl) (V.ed h 7 13 rfl)) (Calls.mono (Cmp_s h.g.1.2.2.2.2.1 h.g.1.2.2.2.1 (hs y my) (hs x mx)) ?_)
   rintro e W' ⟨rfl, hb⟩
   exact ⟨_, rfl, rfl, hb⟩
  ·exact V.mo rfl 0 s0
  ·exact V.mo rfl 1 s1
  ·refine V.s2 rfl fun f W h => ?_
   refine V.call en87 (V.args2 (V.ed h 9 15 rfl) (V.ed h 10 16 rfl)) (Calls.mono (Tryz.cmp_Compare_int (a : Int) (b : Int) _) ?_)
   rintro e W' ⟨rfl, rfl⟩
   exact ⟨_, rfl, rfl, Below.refl _ _⟩
  ·refine V.s2 rfl fun f W h => ?_
   exact V.valv (.slice (some ⟨W.heap.size, 0, none⟩) 2 2) (V.c2 (V.ed h 8 14 rfl) (V.ed h 11 17 rfl)) ⟨⟨W.heap.size, rfl, Blk.new W 3 #[.int .i64 (Q.cmp y.q x.q), .int .i64 (Lib.compareInt (a : Int) (b : Int))], h.g.1.2.2.2.2.2.size⟩, (Below.refl _ _).alloc (Nat.le_refl _) _⟩
  ·refine V.s2 rfl fun f W h => ?_
   obtain ⟨g5, a18, k12_0, p12_0⟩ := V.dp h 12 18 (by kernel_rfl) rfl
   refine V.call en86 (V.args1 (V.ev_tmp rfl a18)) (Calls.mono (Or2 k12_0) ?_)
   rintro e W' ⟨rfl, hb⟩
   exact ⟨_, rfl, rfl, hb⟩
  ·exact V.se rfl 13 19 rfl
 intro f6 W7 e8
 clear hp hl hfr fx fy hb
 obtain ⟨⟨hp, hl, hfr, fx, fy, hb⟩, z_⟩ := e8.g
 obtain ⟨s0, s1⟩ := V.e2 e8 s0 s1
 have s5 := V.es e8 14 5 rfl
 clear e8 z_
 refine V.t_done rfl (V.nx (V.ret ?_))
 refine V.leave_any (.inl rfl) (V.res_tmp rfl rfl s5) ?_
 exact ⟨by rw [cmpM, hqa, hqb], hb⟩
theorem insertion_nat {A : Option Addr} {c p : Nat} {xs : List Fr} {w : World} (hp : Blk w p 29 #[.slice A xs.length c]) (hl : Ls w 4 A xs.length c (xs.map Fr.cells)) (hfr : ∀ x ∈ xs, Fr.ok w x) (hs : ∀ x ∈ xs, Q.Sz 256 x.q) {g cap : Nat} {os : List Nat} (ho : Own w g 3 1 (os.map NatC) []) (hne : 0 < xs.length → (adr A).block ≠ g) (hin : ∀ a ∈ os, a < xs.length) (hcap : os.length ≤ cap ∧ cap ≤ 9223372036854775807) :
    Calls Tryz.prog 150 #[.slice (some ⟨g, 0, none⟩) os.length cap, .int .i64 0, .int .i64 (os.length : Int), .func (.func 85) #[] #[Vp p 0]] w fun e w' => ∃ ys : List Nat, e = .returned (.tuple #[]) ∧ ys.Perm os ∧ Ins.Upto (ltM xs) ys os.length ∧ Own w' g 3 1 (ys.map NatC) [] ∧ w.grownBy w' (some g) := by
 refine V.nt Tryz.func150 rfl rfl fun f0 hf => ?_
 have s0 : f0 0 = .slice (some ⟨g, 0, none⟩) os.length cap := hf 0 (by simp)
 have s1 : f0 1 = .int .i64 0 := hf 1 (by simp)
 have s2 : f0 2 = .int .i64 (os.length : Int) := hf 2 (by simp)
 have s3 : f0 3 = .func (.func 85) #[] #[Vp p 0] := hf 3 (by simp)
 clear hf
 have hb : w.grownBy w (some g) := World.grownBy.refl w _
 refine V.seq ?_
 refine V.reg 3 [V.E (.int .i64 0), V.E (.int .i64 (0 + 1)), V.E (.int .i64 (0 + 1))] [] (V.i hp (V.i hl (V.i hfr (V.i ho hb)))) ?_ ?_
 ·refine V.a3 ?_ ?_ ?_
  ·exact V.mo rfl 1 s1
  ·refine V.s1 rfl fun f W h => ?_
   have hw9 : IntKind.i64.wrap (0 + 1) = 0 + 1 := by exact IntWalk.i64_in _ (by omega)
   exact V.xb (V.ed h 0 10 rfl) rfl ((by kernel_rfl : _ = Result.ok (.int .i64 (IntKind.i64.wrap (0 + 1))) _).trans (by rw [hw9]))
  ·exact V.se rfl 1 11 rfl
 intro f10 W11 e12
 clear hp hl hfr ho hb
 obtain ⟨⟨hp, hl, hfr, ho, hb⟩, z_⟩ := e12.g
 obtain ⟨s0, s1, s2, s3⟩ := V.e4 e12 s0 s1 s2 s3
 have s8 := V.es e12 2 8 rfl
 clear e12 z_
 refine V.t_done rfl (V.nx (V.block ?_))
 refine V.loop (fun k f W => ∃ i : Nat, ∃ ys : List Nat, (k = os.length - i ∧ (ys.Perm os) ∧ (Ins.Upto (ltM xs) ys i) ∧ (1 ≤ i)) ∧ (f 0 = .slice (some ⟨g, 0, none⟩) os.length cap ∧ f 1 = .int .i64 0 ∧ f 2 = .int .i64 (os.length : Int) ∧ f 3 = .func (.func 85) #[] #[Vp p 0] ∧ f 8 = .int .i64 (i : Int)) ∧ (w.grownBy W (some g) ∧ Own W g 3 1 (ys.map NatC) ([]) ∧ Blk W p 29 #[.slice A xs.length c] ∧ Ls W 4 A xs.length c (xs.map Fr.cells) ∧ (∀ x ∈ xs, Fr.ok W x))) (os.length - 1) ⟨1, os, ⟨rfl, List.Perm.refl _, Ins.upto_one, Nat.le_refl _⟩, ⟨s0, s1, s2, s3, (s8.trans (by simp))⟩, ⟨hb, ho, hp, hl, hfr⟩⟩ ?_
 clear hp hl hfr ho hb s0 s1 s2 s3 s8
 rintro k15 f13 W14 ⟨i, ys, ⟨hk21, py, uy, hi1⟩, ⟨s0, s1, s2, s3, s8⟩, ⟨r16, r17, r18, r19, r20⟩⟩
 refine V.seq (V.seq ?_)
 refine V.reg 3 [V.E (.int .i64 (i : Int)), V.E (.int .i64 (os.length : Int)), V.E (.bool (decide ((i : Int) < (os.length : Int))))] [] (V.i r16 (V.i r17 (V.i r18 (V.i r19 r20)))) ?_ ?_
 ·refine V.a3 ?_ ?_ ?_
  ·exact V.mo rfl 8 s8
  ·exact V.mo rfl 2 s2
  ·exact V.z1 rfl fun h => V.xb (V.ed h 0 12 rfl) (V.ed h 1 13 rfl)
 intro f22 W23 e24
 clear r16 r17 r18 r19 r20
 obtain ⟨⟨r16, r17, r18, r19, r20⟩, z_⟩ := e24.g
 obtain ⟨s0, s1, s2, s3, s8⟩ := V.e5 e24 s0 s1 s2 s3 s8
 have s14 := V.es e24 2 14 rfl
 clear e24 z_
 refine V.t_done rfl (V.nx ?_)
 cases hc25 : (decide ((i : Int) < (os.length : Int)))
 ·have s14_ : f22 14 = .bool false := s14.trans (by rw [hc25])
  refine V.cond_f (V.ev_tmp rfl s14_) ?_
  have hi_n := hc25
  simp at hi_n
  refine V.exit (V.tx (V.tx (V.bx ?_)))
  refine V.leave_any (.inr rfl) (V.res_none rfl) ?_
  exact ⟨ys, rfl, py, fun p r x y h1 h2 => uy p r x y h1 (by omega), r17, r16⟩
 ·have s14_ : f22 14 = .bool true := s14.trans (by rw [hc25])
  refine V.cond_t (V.ev_tmp rfl s14_) ?_
  have hi_n := hc25
  simp at hi_n
  refine V.skip ?_
  refine V.nx (V.seq (V.block (V.seq ?_)))
  refine V.reg 2 [V.E (.int .i64 (i : Int)), V.E (.int .i64 (i : Int))] [] (V.i r16 (V.i r17 (V.i r18 (V.i r19 r20)))) ?_ ?_
  ·refine V.a2 ?_ ?_
   ·exact V.mo rfl 8 s8
   ·exact V.se rfl 0 17 rfl
  intro f26 W27 e28
  clear r16 r17 r18 r19 r20
  obtain ⟨⟨r16, r17, r18, r19, r20⟩, z_⟩ := e28.g
  obtain ⟨s0, s1, s2, s3, s8⟩ := V.e5 e28 s0 s1 s2 s3 s8
  have s9 := V.es e28 1 9 rfl
  clear e28 z_
  refine V.t_done rfl (V.nx (V.block ?_))
  refine V.loop (fun k f W => ∃ j : Nat, ∃ zs : List Nat, (k = j ∧ (zs.Perm os) ∧ (Ins.Mid (ltM xs) zs i j) ∧ (j ≤ i)) ∧ (f 0 = .slice (some ⟨g, 0, none⟩) os.length cap ∧ f 1 = .int .i64 0 ∧ f 2 = .int .i64 (os.length : Int) ∧ f 3 = .func (.func 85) #[] #[Vp p 0] ∧ f 8 = .int .i64 (i : Int) ∧ f 9 = .int .i64 (j : Int)) ∧ (w.grownBy W (some g) ∧ Own W g 3 1 (zs.map NatC) ([]) ∧ Blk W p 29 #[.slice A xs.length c] ∧ Ls W 4 A xs.length c (xs.map Fr.cells) ∧ (∀ x ∈ xs, Fr.ok W x))) (i) ⟨i, ys, ⟨rfl, py, Ins.mid_start uy, Nat.le_refl _⟩, ⟨s0, s1, s2, s3, s8, s9⟩, ⟨r16, r17, r18, r19, r20⟩⟩ ?_
  clear r16 r17 r18 r19 r20 s0 s1 s2 s3 s8 s9
  rintro k31 f29 W30 ⟨j, zs, ⟨hk37, pz, mz, hji⟩, ⟨s0, s1, s2, s3, s8, s9⟩, ⟨r32, r33, r34, r35, r36⟩⟩
  have hll : zs.length = os.length := pz.length_eq
  have hm : os.length ≤ cap ∧ cap ≤ 9223372036854775807 := hcap
  obtain ⟨x, mx, ex, ex_⟩ := V.at_map NatC (l := zs) (i := j) (by omega)
  have inx := hin x (pz.mem_iff.1 mx)
  obtain ⟨y, my, ey, ey_⟩ := V.at_map NatC (l := zs) (i := j - 1) (by omega)
  have iny := hin y (pz.mem_iff.1 my)
  refine V.seq (V.seq ?_)
  refine V.reg 17 [V.E (.int .i64 (j : Int)), V.E (.int .i64 0), V.E (.bool (decide (0 < (j : Int)))), V.E (.bool (decide (0 < (j : Int)))), (V.Gd (decide (0 < (j : Int))) (V.E (.func (.func 85) #[] #[Vp p 0]))), (V.Gd (decide (0 < (j : Int))) (V.E (.slice (some ⟨g, 0, none⟩) os.length cap))), (V.Gd (decide (0 < (j : Int))) (V.E (.int .i64 (j : Int)))), (V.Gd (decide (0 < (j : Int))) (V.E (.pointer (some ((adr (some ⟨g, 0, none⟩)).add (j * 1 + 0)))))), (V.Gd (decide (0 < (j : Int))) (V.E (.int .i64 (x : Int)))), (V.Gd (decide (0 < (j : Int))) (V.E (.slice (some ⟨g, 0, none⟩) os.length cap))), (V.Gd (decide (0 < (j : Int))) (V.E (.int .i64 (j : Int)))), (V.Gd (decide (0 < (j : Int))) (V.E (.int .i64 ((j : Int) - 1)))), (V.Gd (decide (0 < (j : Int))) (V.E (.pointer (some ((adr (some ⟨g, 0, none⟩)).add ((j - 1) * 1 + 0)))))), (V.Gd (decide (0 < (j : Int))) (V.E (.int .i64 (y : Int)))), (V.Gd (decide (0 < (j : Int))) (V.E (.int .i64 (cmpM xs x y)))), (V.Gd (decide (0 < (j : Int))) (V.E (.bool (decide ((cmpM xs x y) < 0))))), V.E (.bool ((decide (0 < (j : Int))) && (decide ((cmpM xs x y) < 0))))] [] (V.i r32 (V.i r33 (V.i r34 (V.i r35 r36)))) ?_ ?_
  ·refine V.b8 ?_ ?_ ?_ ?_ ?_ ?_ ?_ ?_ (V.b8 ?_ ?_ ?_ ?_ ?_ ?_ ?_ ?_ (V.ac ?_ V.an))
   ·exact V.mo rfl 9 s9
   ·exact V.mo rfl 1 s1
   ·exact V.z1 rfl fun h => V.xb (V.ed h 0 18 rfl) (V.ed h 1 19 rfl)
   ·exact V.me rfl 2 20 rfl
   ·exact V.gt 3 21 rfl rfl fun hp f W h => V.v1 (V.xm (V.eo h 3 s3))
   ·exact V.gt 3 21 rfl rfl fun hp f W h => V.v1 (V.xm (V.eo h 0 s0))
   ·exact V.gt 3 21 rfl rfl fun hp f W h => V.v1 (V.xm (V.eo h 9 s9))
   ·exact V.gt 3 21 rfl rfl fun hp f W h => V.v1 (V.xi (i := j) (Own.lsn h.g.1.2.1 ⟨by simp [hll], hm⟩) ex_ (V.eg h 5 23 rfl hp) (V.eg h 6 24 rfl hp))
   ·exact V.gt 3 21 rfl rfl fun hp f W h => V.v1 (V.xl (V.eg h 7 25 rfl hp) (V.ld_ls1 (i := j) (o := 0) (Own.lsn h.g.1.2.1 ⟨by simp [hll], hm⟩) ex_ rfl))
   ·exact V.gt 3 21 rfl rfl fun hp f W h => V.v1 (V.xm (V.eo h 0 s0))
   ·exact V.gt 3 21 rfl rfl fun hp f W h => V.v1 (V.xm (V.eo h 9 s9))
   ·refine V.gt 3 21 rfl rfl fun hp f W h => ?_
    have hw38 : IntKind.i64.wrap ((j : Int) - 1) = (j : Int) - 1 := by exact IntWalk.i64_in _ (by omega)
    exact V.v2 (.int .i64 ((j : Int) - 1)) (V.xb (V.eg h 10 28 rfl hp) rfl ((by kernel_rfl : _ = Result.ok (.int .i64 (IntKind.i64.wrap ((j : Int) - 1))) _).trans (by rw [hw38]))) rfl
   ·exact V.gt 3 21 rfl rfl fun hp f W h => V.v1 (V.xi (i := (j - 1)) (Own.lsn h.g.1.2.1 ⟨by simp [hll], hm⟩) ey_ (V.eg h 9 27 rfl hp) ((V.eg h 11 29 rfl hp).trans (congrArg (Value.int .i64) (by have h0 := of_decide_eq_true hp; omega))))
   ·exact V.gt 3 21 rfl rfl fun hp f W h => V.v1 (V.xl (V.eg h 12 30 rfl hp) (V.ld_ls1 (i := j - 1) (o := 0) (Own.lsn h.g.1.2.1 ⟨by simp [hll], hm⟩) ey_ rfl))
   ·refine V.gt 3 21 rfl rfl fun hp f W h => ?_
    refine V.callv (V.eg h 4 22 rfl hp) en85 (V.args2 (V.eg h 8 26 rfl hp) (V.eg h 13 31 rfl hp)) (Calls.mono (most_cmp h.g.1.2.2.1 h.g.1.2.2.2.1 h.g.1.2.2.2.2 hs inx iny) ?_)
    rintro e W' ⟨rfl, hb⟩
    exact ⟨_, rfl, rfl, hb⟩
   ·exact V.gt 3 21 rfl rfl fun hp f W h => V.v1 (V.xb (V.eg h 14 32 rfl hp) rfl)
   ·refine V.s1 rfl fun f W h => ?_
    have d33 := V.dp h 15 33 (by kernel_rfl) rfl
    exact V.x_and (V.ed h 3 21 rfl) (fun e => V.ev_tmp rfl (V.gd_on d33 e)) rfl
  intro f39 W40 e41
  clear r32 r33 r34 r35 r36
  obtain ⟨⟨r32, r33, r34, r35, r36⟩, z_⟩ := e41.g
  obtain ⟨s0, s1, s2, s3, s8, s9⟩ := V.e6 e41 s0 s1 s2 s3 s8 s9
  have s34 := V.es e41 16 34 rfl
  clear e41 z_
  refine V.t_done rfl (V.nx ?_)
  cases hc42 : ((decide (0 < (j : Int))) && (decide ((cmpM xs x y) < 0)))
  ·have s34_ : f39 34 = .bool false := s34.trans (by rw [hc42])
   refine V.cond_f (V.ev_tmp rfl s34_) ?_
   have hst : 0 < j → ∃ x y, zs[j]? = some x ∧ zs[j - 1]? = some y ∧ ltM xs x y = false := fun h0 => ⟨x, y, ex, ey, by
    have h1 := hc42
    rw [decide_eq_true (by omega : 0 < (j : Int)), Bool.true_and] at h1
    exact h1⟩
   refine V.exit (V.tx (V.tx (V.bx (V.bn (V.nx ?_)))))
   refine V.reg 3 [V.E (.int .i64 (i : Int)), V.E (.int .i64 ((i : Int) + 1)), V.E (.int .i64 ((i : Int) + 1))] [] (V.i r32 (V.i r33 (V.i r34 (V.i r35 r36)))) ?_ ?_
   ·refine V.a3 ?_ ?_ ?_
    ·exact V.mo rfl 8 s8
    ·refine V.s1 rfl fun f W h => ?_
     have hw43 : IntKind.i64.wrap ((i : Int) + 1) = (i : Int) + 1 := by exact IntWalk.i64_in _ (by omega)
     exact V.xb (V.ed h 0 15 rfl) rfl ((by kernel_rfl : _ = Result.ok (.int .i64 (IntKind.i64.wrap ((i : Int) + 1))) _).trans (by rw [hw43]))
    ·exact V.se rfl 1 16 rfl
   intro f44 W45 e46
   clear r32 r33 r34 r35 r36
   obtain ⟨⟨r32, r33, r34, r35, r36⟩, z_⟩ := e46.g
   obtain ⟨s0, s1, s2, s3⟩ := V.e4 e46 s0 s1 s2 s3
   have s8 := V.es e46 2 8 rfl
   clear e46 z_
   refine V.t_done rfl ?_
   refine V.handed (os.length - (i + 1)) (by have := hk21; omega) ⟨(i + 1), zs, ⟨rfl, pz, Ins.mid_stop mz hji hst (fun x y z _ _ _ => ltM_tr), by omega⟩, ⟨s0, s1, s2, s3, (s8.trans (by simp))⟩, ⟨r32, r33, r34, r35, r36⟩⟩
  ·have s34_ : f39 34 = .bool true := s34.trans (by rw [hc42])
   refine V.cond_t (V.ev_tmp rfl s34_) ?_
   have hj0 : 0 < j := by have := of_decide_eq_true (V.and_l hc42); omega
   have hlt : ltM xs x y = true := V.and_r hc42
   refine V.skip ?_
   refine V.nx (V.seq (V.block ?_))
   refine V.regF 15 [V.E (.slice (some ⟨g, 0, none⟩) os.length cap), V.E (.int .i64 (j : Int)), V.E (.slice (some ⟨g, 0, none⟩) os.length cap), V.E (.int .i64 (j : Int)), V.E (.int .i64 ((j : Int) - 1)), V.E (.slice (some ⟨g, 0, none⟩) os.length cap), V.E (.int .i64 (j : Int)), V.E (.int .i64 ((j : Int) - 1)), V.E (.pointer (some ((adr (some ⟨g, 0, none⟩)).add ((j - 1) * 1 + 0)))), V.E (.int .i64 (y : Int)), V.E (.slice (some ⟨g, 0, none⟩) os.length cap), V.E (.int .i64 (j : Int)), V.E (.pointer (some ((adr (some ⟨g, 0, none⟩)).add (j * 1 + 0)))), V.E (.int .i64 (x : Int)), V.E (.pointer (some ((adr (some ⟨g, 0, none⟩)).add (j * 1 + 0))))] [] (V.i r32 (V.i r33 (V.i r34 (V.i r35 r36)))) [2, 3, 4] (fun _ => True) (fun _ _ => trivial) ?_ ?_ ?_
   ·refine V.b8 ?_ ?_ ?_ ?_ ?_ ?_ ?_ ?_ (V.a7 ?_ ?_ ?_ ?_ ?_ ?_ ?_)
    ·exact V.mo rfl 0 s0
    ·exact V.mo rfl 9 s9
    ·exact V.mo rfl 0 s0
    ·exact V.mo rfl 9 s9
    ·refine V.s1 rfl fun f W h => ?_
     have hw47 : IntKind.i64.wrap ((j : Int) - 1) = (j : Int) - 1 := by exact IntWalk.i64_in _ (by omega)
     exact V.xb (V.ed h 3 40 rfl) rfl ((by kernel_rfl : _ = Result.ok (.int .i64 (IntKind.i64.wrap ((j : Int) - 1))) _).trans (by rw [hw47]))
    ·exact V.mo rfl 0 s0
    ·exact V.mo rfl 9 s9
    ·refine V.s1 rfl fun f W h => ?_
     have hw48 : IntKind.i64.wrap ((j : Int) - 1) = (j : Int) - 1 := by exact IntWalk.i64_in _ (by omega)
     exact V.xb (V.ed h 6 43 rfl) rfl ((by kernel_rfl : _ = Result.ok (.int .i64 (IntKind.i64.wrap ((j : Int) - 1))) _).trans (by rw [hw48]))
    ·exact V.z1 rfl fun h => V.xi (i := (j - 1)) (Own.lsn h.g.1.2.1 ⟨by simp [hll], hm⟩) ey_ (V.ed h 5 42 rfl) ((V.ed h 7 44 rfl).trans (congrArg (Value.int .i64) (by omega)))
    ·exact V.z1 rfl fun h => V.xl (V.ed h 8 45 rfl) (V.ld_ls1 (i := j - 1) (o := 0) (Own.lsn h.g.1.2.1 ⟨by simp [hll], hm⟩) ey_ rfl)
    ·exact V.mo rfl 0 s0
    ·exact V.mo rfl 9 s9
    ·exact V.z1 rfl fun h => V.xi (i := j) (Own.lsn h.g.1.2.1 ⟨by simp [hll], hm⟩) ex_ (V.ed h 10 47 rfl) (V.ed h 11 48 rfl)
    ·exact V.z1 rfl fun h => V.xl (V.ed h 12 49 rfl) (V.ld_ls1 (i := j) (o := 0) (Own.lsn h.g.1.2.1 ⟨by simp [hll], hm⟩) ex_ rfl)
    ·exact V.z1 rfl fun h => V.xi (i := j) (Own.lsn h.g.1.2.1 ⟨by simp [hll], hm⟩) ex_ (V.ed h 0 37 rfl) (V.ed h 1 38 rfl)
   ·refine V.fl3 (V.fl_step rfl rfl fun f W h => ?_) (V.fl_step rfl rfl fun f W h => ?_) (V.fl_step rfl rfl fun f W h => ?_)
    ·skip
     exact ⟨.slice (some ⟨g, 0, none⟩) os.length cap, fun _ _ => V.xm (V.eo h 0 s0), rfl⟩
    ·skip
     exact ⟨.int .i64 (j : Int), fun _ _ => V.xm (V.eo h 9 s9), rfl⟩
    ·have hw47 : IntKind.i64.wrap ((j : Int) - 1) = (j : Int) - 1 := by exact IntWalk.i64_in _ (by omega)
     exact ⟨.int .i64 ((j : Int) - 1), fun _ _ => V.xb (V.ed h 3 40 rfl) rfl ((by kernel_rfl : _ = Result.ok (.int .i64 (IntKind.i64.wrap ((j : Int) - 1))) _).trans (by rw [hw47])), rfl⟩
   intro f49 W50 e51
   clear r32 r33 r34 r35 r36
   obtain ⟨⟨r32, r33, r34, r35, r36⟩, z_⟩ := e51.g
   obtain ⟨s0, s1, s2, s3, s8, s9⟩ := V.e6 e51 s0 s1 s2 s3 s8 s9
   have s39 := V.es e51 2 39 rfl
   have s41 := V.es e51 4 41 rfl
   have s46 := V.es e51 9 46 rfl
   have s50 := V.es e51 13 50 rfl
   have s51 := V.es e51 14 51 rfl
   clear e51 z_
   refine V.t_skip (k := 15) rfl rfl rfl (by kernel_rfl) trivial (V.x_store (V.ev_tmp rfl s51) (V.ev_tmp rfl s46) (V.st_own1 (i := j) (v := .int .i64 (y : Int)) r33 (by simp [hll]; omega) (fun _ => by kernel_rfl) (by kernel_rfl))) ?_
   replace r32 := grown_set r32 ((((zs.map NatC).set j [.int .i64 (y : Int)]).flatten ++ []).toArray)
   replace r34 := V.blk_far (cs := (((zs.map NatC).set j [.int .i64 (y : Int)]).flatten ++ []).toArray) r34 (blk_ne r34 r33.blk (by decide))
   replace r35 := Ls.far r35 hne ((((zs.map NatC).set j [.int .i64 (y : Int)]).flatten ++ []).toArray)
   replace r36 := (fun x_0 hx_0 => Fr.ok.far (cs' := (((zs.map NatC).set j [.int .i64 (y : Int)]).flatten ++ []).toArray) (r36 x_0 hx_0) r33.blk (nl_nats _ _ rfl))
   replace r33 := Own.set (i := j) (x := [.int .i64 (y : Int)]) r33 rfl
   generalize W50.setRow g (((zs.map NatC).set j [.int .i64 (y : Int)]).flatten ++ []).toArray = W52 at *
   have r33_ : Own W52 g 3 1 ((zs.set j y).map NatC) [] := by rw [List.map_set]; exact r33
   clear r33
   have r33 := r33_
   clear r33_
   have ey2_ : ((zs.set j y).map NatC)[j - 1]? = some (NatC y) := by rw [List.getElem?_map, List.getElem?_set_ne (by omega), ey]; rfl
   refine V.t_val (k := 16) (v := .pointer (some ((adr (some ⟨g, 0, none⟩)).add ((j - 1) * 1 + 0)))) (t := 52) rfl rfl rfl (by kernel_rfl) trivial (V.xi (i := (j - 1)) (Own.lsn r33 ⟨by simp [hll], hm⟩) ey2_ (V.ev_tmp rfl s39) ((V.ev_tmp rfl s41).trans (congrArg (Value.int .i64) (by omega))) rfl (by kernel_rfl)) ?_
   intro f53 e54 u55
   replace s0 : f53 0 = .slice (some ⟨g, 0, none⟩) os.length cap := (u55 0 (by decide)).trans s0
   replace s1 : f53 1 = .int .i64 0 := (u55 1 (by decide)).trans s1
   replace s2 : f53 2 = .int .i64 (os.length : Int) := (u55 2 (by decide)).trans s2
   replace s3 : f53 3 = .func (.func 85) #[] #[Vp p 0] := (u55 3 (by decide)).trans s3
   replace s8 : f53 8 = .int .i64 (i : Int) := (u55 8 (by decide)).trans s8
   replace s9 : f53 9 = .int .i64 (j : Int) := (u55 9 (by decide)).trans s9
   replace s39 : f53 39 = .slice (some ⟨g, 0, none⟩) os.length cap := (u55 39 (by decide)).trans s39
   replace s41 : f53 41 = .int .i64 ((j : Int) - 1) := (u55 41 (by decide)).trans s41
   replace s46 : f53 46 = .int .i64 (y : Int) := (u55 46 (by decide)).trans s46
   replace s50 : f53 50 = .int .i64 (x : Int) := (u55 50 (by decide)).trans s50
   replace s51 : f53 51 = .pointer (some ((adr (some ⟨g, 0, none⟩)).add (j * 1 + 0))) := (u55 51 (by decide)).trans s51
   have s52 := e54
   clear u55
   refine V.t_skip (k := 17) rfl rfl rfl (by kernel_rfl) trivial (V.x_store (V.ev_tmp rfl s52) (V.ev_tmp rfl s50) (V.st_own1 (i := j - 1) (v := .int .i64 (x : Int)) r33 (by simp [hll]; omega) (fun _ => by kernel_rfl) (by kernel_rfl))) ?_
   replace r32 := grown_set r32 (((((zs.set j y).map NatC).set (j - 1) [.int .i64 (x : Int)]).flatten ++ []).toArray)
   replace r34 := V.blk_far (cs := ((((zs.set j y).map NatC).set (j - 1) [.int .i64 (x : Int)]).flatten ++ []).toArray) r34 (blk_ne r34 r33.blk (by decide))
   replace r35 := Ls.far r35 hne (((((zs.set j y).map NatC).set (j - 1) [.int .i64 (x : Int)]).flatten ++ []).toArray)
   replace r36 := (fun x_0 hx_0 => Fr.ok.far (cs' := ((((zs.set j y).map NatC).set (j - 1) [.int .i64 (x : Int)]).flatten ++ []).toArray) (r36 x_0 hx_0) r33.blk (nl_nats _ _ rfl))
   replace r33 := Own.set (i := j - 1) (x := [.int .i64 (x : Int)]) r33 rfl
   generalize W52.setRow g ((((zs.set j y).map NatC).set (j - 1) [.int .i64 (x : Int)]).flatten ++ []).toArray = W56 at *
   have r33_ : Own W56 g 3 1 (((zs.set j y).set (j - 1) x).map NatC) [] := by rw [List.map_set]; exact r33
   clear r33
   have r33 := r33_
   clear r33_
   refine V.t_done rfl (V.bn (V.nx ?_))
   refine V.reg 3 [V.E (.int .i64 (j : Int)), V.E (.int .i64 ((j : Int) - 1)), V.E (.int .i64 ((j : Int) - 1))] [] (V.i r32 (V.i r33 (V.i r34 (V.i r35 r36)))) ?_ ?_
   ·refine V.a3 ?_ ?_ ?_
    ·exact V.mo rfl 9 s9
    ·refine V.s1 rfl fun f W h => ?_
     have hw57 : IntKind.i64.wrap ((j : Int) - 1) = (j : Int) - 1 := by exact IntWalk.i64_in _ (by omega)
     exact V.xb (V.ed h 0 35 rfl) rfl ((by kernel_rfl : _ = Result.ok (.int .i64 (IntKind.i64.wrap ((j : Int) - 1))) _).trans (by rw [hw57]))
    ·exact V.se rfl 1 36 rfl
   intro f58 W59 e60
   clear r32 r33 r34 r35 r36
   obtain ⟨⟨r32, r33, r34, r35, r36⟩, z_⟩ := e60.g
   obtain ⟨s0, s1, s2, s3, s8⟩ := V.e5 e60 s0 s1 s2 s3 s8
   have s9 := V.es e60 2 9 rfl
   clear e60 z_
   refine V.t_done rfl ?_
   refine V.handed ((j - 1)) (by have := hk37; omega) ⟨(j - 1), ((zs.set j y).set (j - 1) x), ⟨rfl, (Ins.swap_perm ex ey).trans pz, Ins.mid_swap mz hj0 hji ex ey (ltM_asym hlt), by omega⟩, ⟨s0, s1, s2, s3, s8, (s9.trans (by simp; omega))⟩, ⟨r32, r33, r34, r35, r36⟩⟩
theorem en121 : En 121 := en_ Tryz.func121
theorem en122 : En 122 := en_ Tryz.func122
theorem en150 : En 150 := en_ Tryz.func150
theorem pdq_nat {A : Option Addr} {c p : Nat} {xs : List Fr} {w : World} (hp : Blk w p 29 #[.slice A xs.length c]) (hl : Ls w 4 A xs.length c (xs.map Fr.cells)) (hfr : ∀ x ∈ xs, Fr.ok w x) (hs : ∀ x ∈ xs, Q.Sz 256 x.q) {g cap : Nat} {os : List Nat} (ho : Own w g 3 1 (os.map NatC) []) (hne : 0 < xs.length → (adr A).block ≠ g) (hin : ∀ a ∈ os, a < xs.length) (hcap : os.length ≤ cap ∧ cap ≤ 9223372036854775807) (h12 : os.length ≤ 12) {lim : Int} :
    Calls Tryz.prog 121 #[.slice (some ⟨g, 0, none⟩) os.length cap, .int .i64 0, .int .i64 (os.length : Int), .int .i64 lim, .func (.func 85) #[] #[Vp p 0]] w fun e w' => ∃ ys : List Nat, e = .returned (.tuple #[]) ∧ ys.Perm os ∧ Ins.Upto (ltM xs) ys os.length ∧ Own w' g 3 1 (ys.map NatC) [] ∧ w.grownBy w' (some g) := by
 refine V.nt Tryz.func121 rfl rfl fun f0 hf => ?_
 have s0 : f0 0 = .slice (some ⟨g, 0, none⟩) os.length cap := hf 0 (by simp)
 have s1 : f0 1 = .int .i64 0 := hf 1 (by simp)
 have s2 : f0 2 = .int .i64 (os.length : Int) := hf 2 (by simp)
 have s3 : f0 3 = .int .i64 lim := hf 3 (by simp)
 have s4 : f0 4 = .func (.func 85) #[] #[Vp p 0] := hf 4 (by simp)
 clear hf
 have hb : w.grownBy w (some g) := World.grownBy.refl w _
 refine V.seq ?_
 refine V.reg 1 [V.E (.bool true)] [] (V.i hp (V.i hl (V.i hfr (V.i ho hb)))) ?_ ?_
 ·refine V.ac ?_ V.an
  ·exact V.z1 rfl fun h => V.xs rfl
 intro f1 W2 e3
 clear hp hl hfr ho hb
 obtain ⟨⟨hp, hl, hfr, ho, hb⟩, z_⟩ := e3.g
 obtain ⟨s0, s1, s2, s3, s4⟩ := V.e5 e3 s0 s1 s2 s3 s4
 have s10 := V.es e3 0 10 rfl
 clear e3 z_
 refine V.t_done rfl (V.nx (V.seq ?_))
 refine V.reg 1 [V.E (.bool true)] [] (V.i hp (V.i hl (V.i hfr (V.i ho hb)))) ?_ ?_
 ·refine V.ac ?_ V.an
  ·exact V.z1 rfl fun h => V.xs rfl
 intro f4 W5 e6
 clear hp hl hfr ho hb
 obtain ⟨⟨hp, hl, hfr, ho, hb⟩, z_⟩ := e6.g
 obtain ⟨s0, s1, s2, s3, s4, s10⟩ := V.e6 e6 s0 s1 s2 s3 s4 s10
 have s11 := V.es e6 0 11 rfl
 clear e6 z_
 refine V.t_done rfl (V.nx (V.block ?_))
 refine V.loop (fun k f W => (k = 0) ∧ (f 0 = .slice (some ⟨g, 0, none⟩) os.length cap ∧ f 1 = .int .i64 0 ∧ f 2 = .int .i64 (os.length : Int) ∧ f 3 = .int .i64 lim ∧ f 4 = .func (.func 85) #[] #[Vp p 0] ∧ f 10 = .bool true ∧ f 11 = .bool true) ∧ (Blk W p 29 #[.slice A xs.length c] ∧ Ls W 4 A xs.length c (xs.map Fr.cells) ∧ (∀ x ∈ xs, Fr.ok W x) ∧ Own W g 3 1 (os.map NatC) ([]) ∧ w.grownBy W (some g))) (0) ⟨rfl, ⟨s0, s1, s2, s3, s4, s10, s11⟩, ⟨hp, hl, hfr, ho, hb⟩⟩ ?_
 clear hp hl hfr ho hb s0 s1 s2 s3 s4 s10 s11
 rintro k9 f7 W8 ⟨hk10, ⟨s0, s1, s2, s3, s4, s10, s11⟩, ⟨hp, hl, hfr, ho, hb⟩⟩
 refine V.block (V.seq ?_)
 refine V.reg 4 [V.E (.int .i64 (os.length : Int)), V.E (.int .i64 0), V.E (.int .i64 ((os.length : Int) - 0)), V.E (.int .i64 ((os.length : Int) - 0))] [] (V.i hp (V.i hl (V.i hfr (V.i ho hb)))) ?_ ?_
 ·refine V.a4 ?_ ?_ ?_ ?_
  ·exact V.mo rfl 2 s2
  ·exact V.mo rfl 1 s1
  ·refine V.s1 rfl fun f W h => ?_
   have hw11 : IntKind.i64.wrap ((os.length : Int) - 0) = (os.length : Int) - 0 := by exact IntWalk.i64_in _ (by omega)
   exact V.xb (V.ed h 0 21 rfl) (V.ed h 1 22 rfl) ((by kernel_rfl : _ = Result.ok (.int .i64 (IntKind.i64.wrap ((os.length : Int) - 0))) _).trans (by rw [hw11]))
  ·exact V.se rfl 2 23 rfl
 intro f12 W13 e14
 clear hp hl hfr ho hb
 obtain ⟨⟨hp, hl, hfr, ho, hb⟩, z_⟩ := e14.g
 obtain ⟨s0, s1, s2, s3, s4, s10, s11⟩ := V.e7 e14 s0 s1 s2 s3 s4 s10 s11
 have s12 := V.es e14 3 12 rfl
 clear e14 z_
 refine V.t_done rfl (V.nx (V.seq (V.seq ?_)))
 refine V.reg 2 [V.E (.int .i64 ((os.length : Int) - 0)), V.E (.bool (decide (((os.length : Int) - 0) ≤ 12)))] [] (V.i hp (V.i hl (V.i hfr (V.i ho hb)))) ?_ ?_
 ·refine V.a2 ?_ ?_
  ·exact V.mo rfl 12 s12
  ·exact V.z1 rfl fun h => V.xb (V.ed h 0 24 rfl) rfl
 intro f15 W16 e17
 clear hp hl hfr ho hb
 obtain ⟨⟨hp, hl, hfr, ho, hb⟩, z_⟩ := e17.g
 obtain ⟨s0, s1, s2, s3, s4, s10, s11, s12⟩ := V.e8 e17 s0 s1 s2 s3 s4 s10 s11 s12
 have s25 := V.es e17 1 25 rfl
 clear e17 z_
 refine V.t_done rfl (V.nx ?_)
 have s25_ : f15 25 = .bool true := s25.trans (congrArg Value.bool (decide_eq_true (by omega)))
 refine V.cond_t (V.ev_tmp rfl s25_) ?_
 refine V.seq ?_
 refine V.reg 4 [V.E (.slice (some ⟨g, 0, none⟩) os.length cap), V.E (.int .i64 0), V.E (.int .i64 (os.length : Int)), V.E (.func (.func 85) #[] #[Vp p 0])] [] (V.i hp (V.i hl (V.i hfr (V.i ho hb)))) ?_ ?_
 ·refine V.a4 ?_ ?_ ?_ ?_
  ·exact V.mo rfl 0 s0
  ·exact V.mo rfl 1 s1
  ·exact V.mo rfl 2 s2
  ·exact V.mo rfl 4 s4
 intro f18 W19 e20
 clear hp hl hfr ho hb
 obtain ⟨⟨hp, hl, hfr, ho, hb⟩, z_⟩ := e20.g
 obtain ⟨s0, s1, s2, s3, s4, s10, s11, s12⟩ := V.e8 e20 s0 s1 s2 s3 s4 s10 s11 s12
 have s26 := V.es e20 0 26 rfl
 have s27 := V.es e20 1 27 rfl
 have s28 := V.es e20 2 28 rfl
 have s29 := V.es e20 3 29 rfl
 clear e20 z_
 refine V.t_call (k := 4) rfl (by kernel_rfl) en150 (V.args4 (V.ev_tmp rfl s26) (V.ev_tmp rfl s27) (V.ev_tmp rfl s28) (V.ev_tmp rfl s29)) (Calls.mono (insertion_nat hp hl hfr hs ho hne hin hcap) ?_)
 rintro e W21 ⟨ys, rfl, py, uy, oy, gb⟩
 refine ⟨_, rfl, trivial, ?_⟩
 intro f22 e23 u24
 replace s0 : f22 0 = .slice (some ⟨g, 0, none⟩) os.length cap := (u24 0 (by decide)).trans s0
 replace s1 : f22 1 = .int .i64 0 := (u24 1 (by decide)).trans s1
 replace s2 : f22 2 = .int .i64 (os.length : Int) := (u24 2 (by decide)).trans s2
 replace s3 : f22 3 = .int .i64 lim := (u24 3 (by decide)).trans s3
 replace s4 : f22 4 = .func (.func 85) #[] #[Vp p 0] := (u24 4 (by decide)).trans s4
 replace s10 : f22 10 = .bool true := (u24 10 (by decide)).trans s10
 replace s11 : f22 11 = .bool true := (u24 11 (by decide)).trans s11
 replace s12 : f22 12 = .int .i64 ((os.length : Int) - 0) := (u24 12 (by decide)).trans s12
 replace s26 : f22 26 = .slice (some ⟨g, 0, none⟩) os.length cap := (u24 26 (by decide)).trans s26
 replace s27 : f22 27 = .int .i64 0 := (u24 27 (by decide)).trans s27
 replace s28 : f22 28 = .int .i64 (os.length : Int) := (u24 28 (by decide)).trans s28
 replace s29 : f22 29 = .func (.func 85) #[] #[Vp p 0] := (u24 29 (by decide)).trans s29
 have s30 := e23
 clear u24
 replace hb : w.grownBy W21 (some g) := grown_trans hb gb
 clear ho hp hl hfr
 refine V.t_done rfl (V.nx (V.ret (V.tr (V.br (V.tr (V.br ?_))))))
 refine V.leave_any (.inl rfl) (V.res_none rfl) ?_
 exact ⟨ys, rfl, py, uy, oy, hb⟩
theorem sort_nat {A : Option Addr} {c p : Nat} {xs : List Fr} {w : World} (hp : Blk w p 29 #[.slice A xs.length c]) (hl : Ls w 4 A xs.length c (xs.map Fr.cells)) (hfr : ∀ x ∈ xs, Fr.ok w x) (hs : ∀ x ∈ xs, Q.Sz 256 x.q) {g cap : Nat} {os : List Nat} (ho : Own w g 3 1 (os.map NatC) []) (hne : 0 < xs.length → (adr A).block ≠ g) (hin : ∀ a ∈ os, a < xs.length) (hcap : os.length ≤ cap ∧ cap ≤ 9223372036854775807) (h12 : os.length ≤ 12) :
    Calls Tryz.prog 84 #[.slice (some ⟨g, 0, none⟩) os.length cap, .func (.func 85) #[] #[Vp p 0]] w fun e w' => ∃ ys : List Nat, e = .returned (.tuple #[]) ∧ ys.Perm os ∧ Ins.Upto (ltM xs) ys os.length ∧ Own w' g 3 1 (ys.map NatC) [] ∧ w.grownBy w' (some g) := by
 refine V.nt Tryz.func84 rfl rfl fun f0 hf => ?_
 have s0 : f0 0 = .slice (some ⟨g, 0, none⟩) os.length cap := hf 0 (by simp)
 have s1 : f0 1 = .func (.func 85) #[] #[Vp p 0] := hf 1 (by simp)
 clear hf
 have hb : w.grownBy w (some g) := World.grownBy.refl w _
 refine V.seq ?_
 refine V.reg 3 [V.E (.slice (some ⟨g, 0, none⟩) os.length cap), V.E (.int .i64 (os.length : Int)), V.E (.int .i64 (os.length : Int))] [] (V.i hp (V.i hl (V.i hfr (V.i ho hb)))) ?_ ?_
 ·refine V.a3 ?_ ?_ ?_
  ·exact V.mo rfl 0 s0
  ·exact V.z1 rfl fun h => V.x_len (V.ed h 0 5 rfl)
  ·exact V.se rfl 1 6 rfl
 intro f25 W26 e27
 clear hp hl hfr ho hb
 obtain ⟨⟨hp, hl, hfr, ho, hb⟩, z_⟩ := e27.g
 obtain ⟨s0, s1⟩ := V.e2 e27 s0 s1
 have s4 := V.es e27 2 4 rfl
 clear e27 z_
 refine V.t_done rfl (V.nx ?_)
 refine V.reg 6 [V.E (.slice (some ⟨g, 0, none⟩) os.length cap), V.E (.int .i64 (os.length : Int)), V.E (.int .i64 (os.length : Int)), V.E (.int .u64 (os.length : Int)), V.E (.int .i64 (Lib.bitLen (os.length : Int).toNat)), V.E (.func (.func 85) #[] #[Vp p 0])] [] (V.i hp (V.i hl (V.i hfr (V.i ho hb)))) ?_ ?_
 ·refine V.a6 ?_ ?_ ?_ ?_ ?_ ?_
  ·exact V.mo rfl 0 s0
  ·exact V.mo rfl 4 s4
  ·exact V.mo rfl 4 s4
  ·refine V.s1 rfl fun f W h => ?_
   have hw28 : IntKind.u64.wrap ((os.length : Int)) = (os.length : Int) := by exact IntWalk.u64_in _ (by omega)
   exact V.x_convert (V.ed h 2 9 rfl) ((by kernel_rfl : _ = Result.ok (.int .u64 (IntKind.u64.wrap ((os.length : Int)))) _).trans (by rw [hw28]))
  ·refine V.s2 rfl fun f W h => ?_
   refine V.call en122 (V.args1 (V.ed h 3 10 rfl)) (Calls.mono (Tryz.bits_Len (os.length : Int) _ (by omega) (by omega)) ?_)
   rintro e W' ⟨rfl, rfl⟩
   exact ⟨_, rfl, rfl, Below.refl _ _⟩
  ·exact V.mo rfl 1 s1
 intro f29 W30 e31
 clear hp hl hfr ho hb
 obtain ⟨⟨hp, hl, hfr, ho, hb⟩, z_⟩ := e31.g
 obtain ⟨s0, s1⟩ := V.e2 e31 s0 s1
 have s7 := V.es e31 0 7 rfl
 have s8 := V.es e31 1 8 rfl
 have s11 := V.es e31 4 11 rfl
 have s12 := V.es e31 5 12 rfl
 clear e31 z_
 refine V.t_call (k := 6) rfl (by kernel_rfl) en121 (V.args5 (V.ev_tmp rfl s7) rfl (V.ev_tmp rfl s8) (V.ev_tmp rfl s11) (V.ev_tmp rfl s12)) (Calls.mono (pdq_nat hp hl hfr hs ho hne hin hcap h12) ?_)
 rintro e W32 ⟨ys, rfl, py, uy, oy, gb⟩
 refine ⟨_, rfl, trivial, ?_⟩
 intro f33 e34 u35
 replace s0 : f33 0 = .slice (some ⟨g, 0, none⟩) os.length cap := (u35 0 (by decide)).trans s0
 replace s1 : f33 1 = .func (.func 85) #[] #[Vp p 0] := (u35 1 (by decide)).trans s1
 replace s7 : f33 7 = .slice (some ⟨g, 0, none⟩) os.length cap := (u35 7 (by decide)).trans s7
 replace s8 : f33 8 = .int .i64 (os.length : Int) := (u35 8 (by decide)).trans s8
 replace s11 : f33 11 = .int .i64 (Lib.bitLen (os.length : Int).toNat) := (u35 11 (by decide)).trans s11
 replace s12 : f33 12 = .func (.func 85) #[] #[Vp p 0] := (u35 12 (by decide)).trans s12
 have s13 := e34
 clear u35
 replace hb : w.grownBy W32 (some g) := grown_trans hb gb
 clear ho hp hl hfr
 refine V.t_done rfl ?_
 refine V.leave_any (.inr rfl) (V.res_none rfl) ?_
 exact ⟨ys, rfl, py, uy, oy, hb⟩
theorem en84 : En 84 := en_ Tryz.func84
theorem fillN_set {n i : Nat} (hi : i < n) : (((List.range i).map NatC) ++ List.replicate (n - i) [Value.int .i64 0]).set i [Value.int .i64 (i : Int)] = ((List.range (i + 1)).map NatC) ++ List.replicate (n - (i + 1)) [Value.int .i64 0] := by
  rw [List.set_append_right _ _ (by simp), List.length_map, List.length_range, Nat.sub_self, show n - i = (n - (i + 1)) + 1 by omega, List.replicate_succ, List.set_cons_zero, List.range_succ, List.map_append, List.append_assoc]
  rfl
theorem fillN_get {n i : Nat} (hi : i < n) : (((List.range i).map NatC) ++ List.replicate (n - i) [Value.int .i64 0])[i]? = some [Value.int .i64 0] := by
  rw [List.getElem?_append_right (by simp), List.length_map, List.length_range, Nat.sub_self, List.getElem?_replicate, if_pos (by omega)]
theorem nl_fillN (l : List Nat) (n : Nat) : ((((l.map NatC) ++ List.replicate n [Value.int .i64 0]).flatten ++ []).toArray).all noLimb = true := by
  have e : (l.map NatC) ++ List.replicate n [Value.int .i64 0] = (l ++ List.replicate n 0).map NatC := by simp
  rw [e]; exact nl_nats _ [] rfl
theorem V.x_makeFunc2 {P : Program} {W : World} {ρ : Operand → Value} {d : Option Tmp} {ty : TypeId} {pos : String} {af : Array Edge} {gd : Option (Nat × Bool)} {x y : Operand} {k : Nat} {v u : Value} (hx : ρ x = v) (hy : ρ y = u) : (execOp ρ ⟨d, .makeFunc (Fn.func k) #[] #[x, y], ty, pos, af, gd⟩).run P W = .ok (.value (.func (.func k) #[] #[v, u])) W := by
  simp [execOp, hx, hy, Instr.makeFunc]
theorem most_s {A : Option Addr} {c : Nat} {xs : List Fr} {k0 : Int} {w : World} (hl : Ls w 4 A xs.length c (xs.map Fr.cells)) (hfr : ∀ x ∈ xs, Fr.ok w x) (hs : ∀ x ∈ xs, Q.Sz 256 x.q) (h12 : xs.length ≤ 12) :
    Calls Tryz.prog 45 #[.slice A xs.length c, .int .i64 k0] w fun e w' => ∃ (g5 g3 go : Nat) (ys : List Nat), e = .returned (.func (.func 88) #[] #[Vp g5 0, Vp g3 0]) ∧ ys.Perm (List.range xs.length) ∧ Ins.Upto (ltM xs) ys xs.length ∧ Blk w' g5 25 #[.slice (some ⟨go, 0, none⟩) xs.length xs.length] ∧ Blk w' g3 3 #[.int .i64 k0] ∧ Own w' go 3 1 (ys.map NatC) [] ∧ w.heap.size ≤ go ∧ w.heap.size ≤ g5 ∧ w.heap.size ≤ g3 ∧ Below w.heap.size w w' := by
 refine V.nt Tryz.func45 rfl rfl fun f0 hf => ?_
 have s0 : f0 0 = .slice A xs.length c := hf 0 (by simp)
 have s1 : f0 1 = .int .i64 k0 := hf 1 (by simp)
 clear hf
 have hb := Below.refl w.heap.size w
 have w_hl := hl
 have w_hfr := hfr
 refine V.seq ?_
 refine V.reg 3 [V.Nb w 29 #[.slice A xs.length c], V.Nb w 3 #[.int .i64 k0], V.E .nilFunc] [0, 1] (V.i hl (V.i hfr hb)) ?_ ?_
 ·refine V.a3 ?_ ?_ ?_
  ·exact V.sn rfl fun f W h => V.x_box (V.eo h 0 s0)
  ·exact V.sn rfl fun f W h => V.x_box (V.eo h 1 s1)
  ·exact V.z1 rfl fun h => V.xs rfl
 have o_bel := hb.size
 have ob_hl := hl.blt
 intro f38 W39 e40
 clear hl hfr hb
 obtain ⟨⟨hl, hfr, hb⟩, z_⟩ := e40.g
 obtain ⟨s0, s1⟩ := V.e2 e40 s0 s1
 obtain ⟨g36, s2, bg36, lg36⟩ := V.eq e40 0 2 rfl
 obtain ⟨g37, s3, bg37, lg37⟩ := V.eq e40 1 3 rfl
 have mg37 := Nat.le_trans o_bel lg37
 have s4 := V.es e40 2 4 rfl
 clear e40 z_
 clear o_bel ob_hl
 refine V.t_done rfl (V.nx (V.seq ?_))
 refine V.reg 4 [V.E (.slice A xs.length c), V.E (.int .i64 (xs.length : Int)), (fun v W => ∃ g41 : Nat, v = .slice (some ⟨g41, 0, none⟩) xs.length xs.length ∧ Own W g41 3 1 (List.replicate xs.length [.int .i64 0]) ([]) ∧ (w.heap.size ≤ g41) ∧ (W39.heap.size ≤ g41)), V.Nb W39 25 #[.slice none 0 0]] [3] (V.i hl (V.i hfr (V.i hb (V.i bg36 bg37)))) ?_ ?_
 ·refine V.a4 ?_ ?_ ?_ ?_
  ·exact V.z1 rfl fun h => V.xl (V.eo h 2 s2) (V.lo h.g.1.2.2.2.1 rfl)
  ·exact V.z1 rfl fun h => V.x_len (V.ed h 0 7 rfl)
  ·refine V.s2 rfl fun f W h => ?_
   exact V.valv (.slice (some ⟨W.heap.size, 0, none⟩) xs.length xs.length) (V.x_make (k := 1) (z := .int .i64 0) (V.ed h 1 8 rfl) rfl (by kernel_rfl) (by omega)) ⟨⟨W.heap.size, rfl, Own.made rfl rfl W, h.g.1.2.2.1.size, h.g.2⟩, (Below.refl _ _).alloc (Nat.le_refl _) _⟩
  ·exact V.sn rfl fun f W h => V.x_alloc
 have o_g36 := bg36.lt
 have o_g37 := bg37.lt
 have o_bel := hb.size
 have ob_hl := hl.blt
 intro f43 W44 e45
 clear hl hfr hb bg36 bg37
 obtain ⟨⟨hl, hfr, hb, bg36, bg37⟩, z_⟩ := e45.g
 obtain ⟨s0, s1, s2, s3, s4⟩ := V.e5 e45 s0 s1 s2 s3 s4
 obtain ⟨g41, s9, r46, n47, n48⟩ := V.eq e45 2 9 rfl
 have mg41 := n47
 have q49 : 0 < xs.length → (adr A).block ≠ g41 := fun h => Nat.ne_of_lt (Nat.lt_of_lt_of_le (w_hl.blt h) n47)
 have q50 : g36 ≠ g41 := Nat.ne_of_lt (Nat.lt_of_lt_of_le o_g36 n48)
 have q51 : g37 ≠ g41 := Nat.ne_of_lt (Nat.lt_of_lt_of_le o_g37 n48)
 obtain ⟨g42, s5, bg42, lg42⟩ := V.eq e45 3 5 rfl
 have mg42 := Nat.le_trans o_bel lg42
 have q36_42 : g36 ≠ g42 := by omega
 have q37_42 : g37 ≠ g42 := by omega
 have q_hl_g42 : 0 < xs.length → (adr A).block ≠ g42 := fun h => Nat.ne_of_lt (Nat.lt_of_lt_of_le (ob_hl h) lg42)
 clear e45 z_
 clear o_bel o_g36 o_g37 ob_hl
 refine V.t_st (k := 4) rfl (V.x_store (V.ev_tmp rfl s5) (V.ev_tmp rfl s9) (V.st_one bg42)) bg42 fun W52 hs b' => ?_
 replace hl := hs.ls hl q_hl_g42
 replace hfr := (fun x_0 hx_0 => hs.fr (hfr x_0 hx_0))
 replace hb := hs.bel hb mg42
 replace bg36 := hs.blk bg36 q36_42
 replace bg37 := hs.blk bg37 q37_42
 replace r46 := hs.own r46 (blk_ne r46.blk bg42 (by decide))
 replace bg42 := b'
 clear hs b'
 refine V.t_done rfl (V.nx (V.seq (V.seq ?_)))
 refine V.reg 3 [V.E (.slice (some ⟨g41, 0, none⟩) xs.length xs.length), V.E (.int .i64 (xs.length : Int)), V.E (.int .i64 0)] [] (V.i hl (V.i hfr (V.i hb (V.i bg36 (V.i bg37 (V.i r46 bg42)))))) ?_ ?_
 ·refine V.a3 ?_ ?_ ?_
  ·exact V.z1 rfl fun h => V.xl (V.eo h 5 s5) (V.lo h.g.1.2.2.2.2.2.2 rfl)
  ·exact V.z1 rfl fun h => V.x_len (V.ed h 0 10 rfl)
  ·exact V.z1 rfl fun h => V.xm rfl
 intro f53 W54 e55
 clear hl hfr hb bg36 bg37 r46 bg42
 obtain ⟨⟨hl, hfr, hb, bg36, bg37, r46, bg42⟩, z_⟩ := e55.g
 obtain ⟨s0, s1, s2, s3, s4, s5⟩ := V.e6 e55 s0 s1 s2 s3 s4 s5
 have s11 := V.es e55 1 11 rfl
 have s12 := V.es e55 2 12 rfl
 clear e55 z_
 refine V.t_done rfl (V.nx (V.block ?_))
 have r56 : Own W54 g41 3 1 (((List.range 0).map NatC) ++ List.replicate (xs.length - 0) [Value.int .i64 0]) [] := r46
 refine V.loop (fun k f W => ∃ i : Nat, (k = xs.length - i ∧ (i ≤ xs.length)) ∧ (f 2 = Vp g36 0 ∧ f 3 = Vp g37 0 ∧ f 5 = Vp g42 0 ∧ f 11 = .int .i64 (xs.length : Int) ∧ f 12 = .int .i64 (i : Int)) ∧ (Below w.heap.size w W ∧ Ls W 4 A xs.length c (xs.map Fr.cells) ∧ (∀ x ∈ xs, Fr.ok W x) ∧ Blk W g36 29 #[.slice A xs.length c] ∧ Blk W g37 3 #[.int .i64 k0] ∧ Blk W g42 25 #[.slice (some ⟨g41, 0, none⟩) xs.length xs.length] ∧ Own W g41 3 1 (((List.range i).map NatC) ++ List.replicate (xs.length - i) [Value.int .i64 0]) ([]))) (xs.length - 0) ⟨0, ⟨rfl, by omega⟩, ⟨s2, s3, s5, s11, (s12.trans (by simp))⟩, ⟨hb, hl, hfr, bg36, bg37, bg42, r56⟩⟩ ?_
 clear hl hfr hb bg36 bg37 bg42 r56 s0 s1 s2 s3 s4 s5 s11 s12
 rintro k59 f57 W58 ⟨i, ⟨hk67, hil⟩, ⟨s2, s3, s5, s11, s12⟩, ⟨r60, r61, r62, r63, r64, r65, r66⟩⟩
 refine V.seq ?_
 refine V.reg 1 [V.E (.bool (decide ((i : Int) < (xs.length : Int))))] [] (V.i r60 (V.i r61 (V.i r62 (V.i r63 (V.i r64 (V.i r65 r66)))))) ?_ ?_
 ·refine V.ac ?_ V.an
  ·exact V.z1 rfl fun h => V.xb (V.eo h 12 s12) (V.eo h 11 s11)
 intro f68 W69 e70
 clear r60 r61 r62 r63 r64 r65 r66
 obtain ⟨⟨r60, r61, r62, r63, r64, r65, r66⟩, z_⟩ := e70.g
 obtain ⟨s2, s3, s5, s11, s12⟩ := V.e5 e70 s2 s3 s5 s11 s12
 have s13 := V.es e70 0 13 rfl
 clear e70 z_
 refine V.t_done rfl (V.nx (V.seq ?_))
 cases hc71 : (decide ((i : Int) < (xs.length : Int)))
 ·have s13_ : f68 13 = .bool false := s13.trans (by rw [hc71])
  refine V.cond_f (V.ev_tmp rfl s13_) ?_
  have hi : i = xs.length := by have := of_decide_eq_false hc71; omega
  refine V.exit (V.tx (V.tx (V.bx (V.nx (V.seq ?_)))))
  refine V.reg 2 [V.E (.slice (some ⟨g41, 0, none⟩) xs.length xs.length), V.E (.func (.func 85) #[] #[Vp g36 0])] [] (V.i r60 (V.i r61 (V.i r62 (V.i r63 (V.i r64 (V.i r65 r66)))))) ?_ ?_
  ·refine V.a2 ?_ ?_
   ·exact V.z1 rfl fun h => V.xl (V.eo h 5 s5) (V.lo h.g.1.2.2.2.2.2.1 rfl)
   ·exact V.z1 rfl fun h => V.x_makeFunc1 (V.eo h 2 s2)
  intro f72 W73 e74
  clear r60 r61 r62 r63 r64 r65 r66
  obtain ⟨⟨r60, r61, r62, r63, r64, r65, r66⟩, z_⟩ := e74.g
  obtain ⟨s3, s5⟩ := V.e2 e74 s3 s5
  have s20 := V.es e74 0 20 rfl
  have s21 := V.es e74 1 21 rfl
  clear e74 z_
  have on : Own W73 g41 3 1 ((List.range xs.length).map NatC) [] := by have h9 := r66; rw [hi, Nat.sub_self, List.replicate_zero, List.append_nil] at h9; exact h9
  have e0 : (List.range xs.length).length = xs.length := List.length_range
  have hso := sort_nat (cap := xs.length) r63 r61 r62 hs on q49 (fun a h => List.mem_range.1 h) ⟨by rw [e0]; exact Nat.le_refl _, by omega⟩ (by rw [e0]; exact h12)
  rw [e0] at hso
  have q3 : g41 ≠ g42 := blk_ne on.blk r65 (by decide)
  have q4 : g41 ≠ g37 := (Ne.symm q51)
  refine V.t_call (k := 2) rfl (by kernel_rfl) en84 (V.args2 (V.ev_tmp rfl s20) (V.ev_tmp rfl s21)) (Calls.mono hso ?_)
  rintro e W75 ⟨ys, rfl, py, uy, oy, gb⟩
  refine ⟨_, rfl, trivial, ?_⟩
  intro f76 e77 u78
  replace s3 : f76 3 = Vp g37 0 := (u78 3 (by decide)).trans s3
  replace s5 : f76 5 = Vp g42 0 := (u78 5 (by decide)).trans s5
  replace s20 : f76 20 = .slice (some ⟨g41, 0, none⟩) xs.length xs.length := (u78 20 (by decide)).trans s20
  replace s21 : f76 21 = .func (.func 85) #[] #[Vp g36 0] := (u78 21 (by decide)).trans s21
  have s22 := e77
  clear u78
  replace r64 : Blk W75 g37 3 #[.int .i64 k0] := (gb.block _ r64.lt (by simpa using Ne.symm q4)).trans r64
  replace r65 : Blk W75 g42 25 #[.slice (some ⟨g41, 0, none⟩) xs.length xs.length] := (gb.block _ r65.lt (by simpa using Ne.symm q3)).trans r65
  replace r60 : Below w.heap.size w W75 := r60.trans (Below.of_grown gb r60.size fun k e => by cases e; exact mg41)
  clear r63 r61 r62 on
  refine V.t_done rfl (V.nx (V.seq ?_))
  refine V.reg 2 [V.E (.func (.func 88) #[] #[Vp g42 0, Vp g37 0]), V.E (.func (.func 88) #[] #[Vp g42 0, Vp g37 0])] [] (V.i r60 (V.i oy (V.i r64 r65))) ?_ ?_
  ·refine V.a2 ?_ ?_
   ·exact V.z1 rfl fun h => V.x_makeFunc2 (V.eo h 5 s5) (V.eo h 3 s3)
   ·exact V.se rfl 0 23 rfl
  intro f79 W80 e81
  clear r60 oy r64 r65
  obtain ⟨⟨r60, oy, r64, r65⟩, z_⟩ := e81.g
  have s4 := V.es e81 1 4 rfl
  clear e81 z_
  refine V.t_done rfl (V.nx (V.ret ?_))
  refine V.leave_any (.inl rfl) (V.res_tmp rfl rfl s4) ?_
  exact ⟨g42, g37, g41, ys, rfl, py, uy, r65, r64, oy, mg41, mg42, mg37, r60⟩
 ·have s13_ : f68 13 = .bool true := s13.trans (by rw [hc71])
  refine V.cond_t (V.ev_tmp rfl s13_) ?_
  have hi : i < xs.length := by have := of_decide_eq_true hc71; omega
  refine V.skip ?_
  refine V.nx (V.seq (V.block (V.seq ?_)))
  refine V.reg 2 [V.E (.int .i64 (i : Int)), V.E (.int .i64 (i : Int))] [] (V.i r60 (V.i r61 (V.i r62 (V.i r63 (V.i r64 (V.i r65 r66)))))) ?_ ?_
  ·refine V.a2 ?_ ?_
   ·exact V.mo rfl 12 s12
   ·exact V.se rfl 0 14 rfl
  intro f82 W83 e84
  clear r60 r61 r62 r63 r64 r65 r66
  obtain ⟨⟨r60, r61, r62, r63, r64, r65, r66⟩, z_⟩ := e84.g
  obtain ⟨s2, s3, s5, s11, s12⟩ := V.e5 e84 s2 s3 s5 s11 s12
  have s6 := V.es e84 1 6 rfl
  clear e84 z_
  refine V.t_done rfl (V.nx ?_)
  refine V.reg 4 [V.E (.slice (some ⟨g41, 0, none⟩) xs.length xs.length), V.E (.int .i64 (i : Int)), V.E (.int .i64 (i : Int)), V.E (.pointer (some ((adr (some ⟨g41, 0, none⟩)).add (i * 1 + 0))))] [] (V.i r60 (V.i r61 (V.i r62 (V.i r63 (V.i r64 (V.i r65 r66)))))) ?_ ?_
  ·refine V.a4 ?_ ?_ ?_ ?_
   ·exact V.z1 rfl fun h => V.xl (V.eo h 5 s5) (V.lo h.g.1.2.2.2.2.2.1 rfl)
   ·exact V.mo rfl 6 s6
   ·exact V.mo rfl 6 s6
   ·exact V.z1 rfl fun h => V.xi (i := i) (Own.lsn h.g.1.2.2.2.2.2.2 ⟨by simp; omega, Nat.le_refl _, by omega⟩) (fillN_get hi) (V.ed h 0 15 rfl) (V.ed h 1 16 rfl)
  intro f85 W86 e87
  clear r60 r61 r62 r63 r64 r65 r66
  obtain ⟨⟨r60, r61, r62, r63, r64, r65, r66⟩, z_⟩ := e87.g
  obtain ⟨s2, s3, s5, s11, s12⟩ := V.e5 e87 s2 s3 s5 s11 s12
  have s17 := V.es e87 2 17 rfl
  have s18 := V.es e87 3 18 rfl
  clear e87 z_
  refine V.t_skip (k := 4) rfl rfl rfl (by kernel_rfl) trivial (V.x_store (V.ev_tmp rfl s18) (V.ev_tmp rfl s17) (V.st_own1 (i := i) (v := .int .i64 (i : Int)) r66 (by simp; omega) (fun _ => by kernel_rfl) (by kernel_rfl))) ?_
  replace r60 := V.bel_far (cs := (((((List.range i).map NatC) ++ List.replicate (xs.length - i) [Value.int .i64 0]).set i [.int .i64 (i : Int)]).flatten ++ []).toArray) r60 mg41
  replace r61 := Ls.far r61 q49 ((((((List.range i).map NatC) ++ List.replicate (xs.length - i) [Value.int .i64 0]).set i [.int .i64 (i : Int)]).flatten ++ []).toArray)
  replace r62 := (fun x_0 hx_0 => Fr.ok.far (cs' := (((((List.range i).map NatC) ++ List.replicate (xs.length - i) [Value.int .i64 0]).set i [.int .i64 (i : Int)]).flatten ++ []).toArray) (r62 x_0 hx_0) r66.blk (nl_fillN _ _))
  replace r63 := V.blk_far (cs := (((((List.range i).map NatC) ++ List.replicate (xs.length - i) [Value.int .i64 0]).set i [.int .i64 (i : Int)]).flatten ++ []).toArray) r63 q50
  replace r64 := V.blk_far (cs := (((((List.range i).map NatC) ++ List.replicate (xs.length - i) [Value.int .i64 0]).set i [.int .i64 (i : Int)]).flatten ++ []).toArray) r64 q51
  replace r65 := V.blk_far (cs := (((((List.range i).map NatC) ++ List.replicate (xs.length - i) [Value.int .i64 0]).set i [.int .i64 (i : Int)]).flatten ++ []).toArray) r65 (blk_ne r65 r66.blk (by decide))
  replace r66 := Own.set (i := i) (x := [.int .i64 (i : Int)]) r66 rfl
  generalize W86.setRow g41 (((((List.range i).map NatC) ++ List.replicate (xs.length - i) [Value.int .i64 0]).set i [.int .i64 (i : Int)]).flatten ++ []).toArray = W88 at *
  have r66_ : Own W88 g41 3 1 (((List.range (i + 1)).map NatC) ++ List.replicate (xs.length - (i + 1)) [Value.int .i64 0]) [] := by rw [← fillN_set hi]; exact r66
  clear r66
  have r66 := r66_
  clear r66_
  refine V.t_done rfl (V.bn (V.nx ?_))
  refine V.reg 2 [V.E (.int .i64 ((i : Int) + 1)), V.E (.int .i64 ((i : Int) + 1))] [] (V.i r60 (V.i r61 (V.i r62 (V.i r63 (V.i r64 (V.i r65 r66)))))) ?_ ?_
  ·refine V.a2 ?_ ?_
   ·refine V.s1 rfl fun f W h => ?_
    have hw89 : IntKind.i64.wrap ((i : Int) + 1) = (i : Int) + 1 := by exact IntWalk.i64_in _ (by omega)
    exact V.xb (V.eo h 12 s12) rfl ((by kernel_rfl : _ = Result.ok (.int .i64 (IntKind.i64.wrap ((i : Int) + 1))) _).trans (by rw [hw89]))
   ·exact V.me rfl 0 19 rfl
  intro f90 W91 e92
  clear r60 r61 r62 r63 r64 r65 r66
  obtain ⟨⟨r60, r61, r62, r63, r64, r65, r66⟩, z_⟩ := e92.g
  obtain ⟨s2, s3, s5, s11⟩ := V.e4 e92 s2 s3 s5 s11
  have s12 := V.es e92 1 12 rfl
  clear e92 z_
  refine V.t_done rfl ?_
  refine V.handed (xs.length - (i + 1)) (by have := hk67; omega) ⟨(i + 1), ⟨rfl, by omega⟩, ⟨s2, s3, s5, s11, (s12.trans (by simp))⟩, ⟨r60, r61, r62, r63, r64, r65, r66⟩⟩
end Go.Proofs.YtjbcalbbhomkjaaGreat
namespace Go.Proofs.YtjbcalbbhomkjaaGreat
open Go.RowKit Go.Shelf
attribute [local go_sem] Oper.semAt_some
def MostOk (g5 g3 go n m : Nat) (ys : List Nat) (W : World) : Prop :=
 W.cell? ⟨g5, 0, none⟩ = some (.slice (some ⟨go, 0, none⟩) n n) ∧ W.cell? ⟨g3, 0, none⟩ = some (.int .i64 (m : Int)) ∧ ∀ j, j < n → W.cell? ⟨go, j, none⟩ = some (.int .i64 ((ys[j]?.getD 0 : Nat) : Int))
def MostK (g5 g3 go n m : Nat) (ys : List Nat) (W W' : World) : Prop := MostOk g5 g3 go n m ys W → MostOk g5 g3 go n m ys W'
def MostMore (ys : List Nat) (m : Nat) (k : Nat) (W W' : World) (args : Array Value) : Prop := W = W' ∧ k < m ∧ args = #[.int .i64 ((ys[k]?.getD 0 : Nat) : Int)]
def MostFin (m : Nat) (k : Nat) (W W' : World) : Prop := k = m ∧ W = W'
set_option maxRecDepth 100000 in
set_option maxHeartbeats 1000000 in
theorem most2_in (g5 g3 go n m : Nat) (ys : List Nat) (hm : m ≤ n) (hn : n ≤ 100000) (l : Nat) (J : Nat → World → Prop) (Jx : World → Prop) (W0 : World) (h0 : J 0 W0) (hok : MostOk g5 g3 go n m ys W0)
  (hY : ∀ k W W' args, J k W → MostMore ys m k W W' args → YieldAt Fence.wide 9 Tryz.prog l args W' fun e W'' =>
   (e = .returned (.bool true) ∧ J (k + 1) W'' ∧ MostK g5 g3 go n m ys W' W'') ∨ (e = .returned (.bool false) ∧ Jx W'')) :
  CallsIn Fence.wide 3 Tryz.prog 88 (#[.func (.yield l) #[] #[]] ++ #[.pointer (some ⟨g5, 0, none⟩), .pointer (some ⟨g3, 0, none⟩)]) W0 fun e W' => (∃ v, e = .returned v) ∧ ((∃ k W, J k W ∧ MostFin m k W W') ∨ Jx W') := by
 refine callsIn_of_wp Tryz.func88 rfl trivial ?_ rfl
 simp only [Tryz.ntmps88, List.size_toArray, List.length_cons, List.length_nil, Nat.reduceAdd, Nat.reduceSub, Array.replicate_succ, Array.replicate_zero, List.push_toArray, List.append_toArray, List.nil_append, List.cons_append]
 have hb5 := hok.1
 have hb3 := hok.2.1
 gi_wp2
 clear hb5 hb3
 gi_loopw [10] (fun i wr => ∃ k : Nat, k ≤ m ∧ i = .int .i64 (k : Int) ∧ J k wr ∧ MostOk g5 g3 go n m ys wr)
  (fun i _ => m - (intOf i).toNat)
 case atStart => exact ⟨0, by omega, rfl, h0, hok⟩
 case round =>
  obtain ⟨k, hkm, rfl, hJ, hok⟩ := hrel
  by_cases hk : k = m
  ·have HK := Lib.hid hk
   clear hk hok
   have hlt : ¬ ((k : Int) < (m : Int)) := by have := HK.out; omega
   gi_wp2
   go_end0
   exact ⟨⟨_, rfl⟩, .inl ⟨k, _, hJ, HK.out, rfl⟩⟩
  ·have hlt : (k : Int) < (m : Int) := by omega
   have hx := hok.2.2 k (by omega)
   obtain ⟨fn, tmps, assign, body, hy, hR⟩ := hY k wr wr #[.int .i64 ((ys[k]?.getD 0 : Nat) : Int)] hJ ⟨rfl, by omega, rfl⟩
   have HOK := hide hok
   have HK := Lib.hid hk
   have HM := Lib.hid hkm
   clear hok hk hkm
   gi_wp2
   refine RoundIn.mono (R := _) ⟨hR.1, fun c cs _ => hR.2 c cs (room_wide _)⟩ ?_
   rintro e W3 (⟨rfl, hJ3, hk3⟩ | ⟨rfl, hJx3⟩)
   ·have hok3 := hk3 HOK.out
    gi_wp2
    go_roundw
    case rel => exact ⟨k + 1, by have := HK.out; have := HM.out; omega, by simp, hJ3, hok3⟩
    case measure => simp [intOf]; omega
   ·gi_wp2
    refine bodyPost_ret (results_none rfl _ _ _) rfl ?_
    exact ⟨⟨_, rfl⟩, .inr hJx3⟩
theorem most2_iter (g5 g3 go n m : Nat) (ys : List Nat) (w : World) (hm : m ≤ n) (hn : n ≤ 100000) (hkeep : ∀ W, Below w.heap.size w W → MostOk g5 g3 go n m ys W) :
  Iter Tryz.prog 88 #[.pointer (some ⟨g5, 0, none⟩), .pointer (some ⟨g3, 0, none⟩)] (MostK g5 g3 go n m ys) (MostMore ys m) (MostFin m) w := fun l J Jx W0 hb hY h0 =>
 callsIn_any (most2_in g5 g3 go n m ys hm hn l J Jx W0 h0 (hkeep W0 hb) hY)
theorem MostOk.sim {g5 g3 go n m B : Nat} {ys : List Nat} {X Y : World} (h : MostOk g5 g3 go n m ys X) (k : Sim B X Y) : MostOk g5 g3 go n m ys Y := ⟨k.cell h.1, k.cell h.2.1, fun j hj => k.cell (h.2.2 j hj)⟩
theorem MostK.trans {g5 g3 go n m : Nat} {ys : List Nat} {X Y Z : World} (h : MostK g5 g3 go n m ys X Y) (k : MostK g5 g3 go n m ys Y Z) : MostK g5 g3 go n m ys X Z := fun x => k (h x)
theorem MostK.sim {g5 g3 go n m B : Nat} {ys : List Nat} {X Y : World} (k : Sim B X Y) : MostK g5 g3 go n m ys X Y := fun h => h.sim k
end Go.Proofs.YtjbcalbbhomkjaaGreat
