import Derived.Test.YtjbcalbbhomkjaaGreatEMul
import Derived.Test.YtjbcalbbhomkjaaGreatEReg
import Derived.Test.YtjbcalbbhomkjaaGreatEBits
namespace Go.Proofs.YtjbcalbbhomkjaaGreat
open Go.RowKit Go.Shelf
attribute [local go_sem] Oper.semAt_some
theorem MulI.sim {w wr wr' : World} {g N : Nat} {zs : List Nat} {B : Nat} (h : MulI w wr g N zs) (hs : Sim B wr wr') (hB : w.heap.size ≤ B) : MulI w wr' g N zs :=
 ⟨h.len, h.ok, ownsRow_sim h.own hs, below_sim h.below hs hB, h.ge⟩
theorem wrap_quo {T d : Nat} (h : T < d * 65536) (hd : 1 ≤ d) : IntKind.u16.wrap (IntKind.u32.wrap ((T : Int) / (d : Int))) = ((T / d : Nat) : Int) := by
 have hq : T / d < 65536 := (Nat.div_lt_iff_lt_mul (by omega)).2 (by rw [Nat.mul_comm]; exact h)
 have e : (T : Int) / (d : Int) = ((T / d : Nat) : Int) := by simp
 rw [e]
 show (((T / d : Nat) : Int) % 4294967296) % 65536 = _
 generalize T / d = q at hq ⊢
 omega
structure ShI (w W : World) (S n d : Nat) (xs : List Nat) (j r : Nat) (zs : List Nat) : Prop extends MulI w W (w.heap.size + 1) n zs where
 dv : Blk W w.heap.size 161 #[.int .u32 (d : Int)]
 out : Blk W S 33 #[.slice (some ⟨w.heap.size + 1, 0, none⟩) n n]
 rest : Blk W (S + 1) 161 #[.int .u32 (r : Int)]
 quo : Lb.val (zs.drop j) = Lb.val (xs.drop j) / d
 rem : r = Lb.val (xs.drop j) % d
theorem ShI.sim {w W W' : World} {S n d : Nat} {xs : List Nat} {j r : Nat} {zs : List Nat} {B : Nat} (h : ShI w W S n d xs j r zs) (hs : Sim B W W') (hB : w.heap.size ≤ B) : ShI w W' S n d xs j r zs :=
 ⟨h.toMulI.sim hs hB, h.dv.sim hs, h.out.sim hs, h.rest.sim hs, h.quo, h.rem⟩
def ShS (w : World) (S n d : Nat) (W' : World) : Prop := W'.cell? ⟨w.heap.size, 0, none⟩ = some (.int .u32 (d : Int)) ∧ W'.cell? ⟨S, 0, none⟩ = some (.slice (some ⟨w.heap.size + 1, 0, none⟩) n n)
theorem ShI.step1 {w W : World} {S n d : Nat} {xs : List Nat} {j r : Nat} {zs : List Nat} (h : ShI w W S n d xs (j + 1) r zs) (hS : w.heap.size + 2 ≤ S) (v : Value) : ShS w S n d (W.setCell ⟨w.heap.size + 1, j, none⟩ v) :=
 ⟨(h.dv.far (p := ⟨w.heap.size + 1, j, none⟩) (by simp) v).one, (h.out.far (p := ⟨w.heap.size + 1, j, none⟩) (by simp; omega) v).one⟩
theorem ShI.next {w W : World} {S n d : Nat} {xs : List Nat} {j r T : Nat} {zs : List Nat} (h : ShI w W S n d xs (j + 1) r zs) (hS : w.heap.size + 2 ≤ S) (hT : T = r * 65536 + xs[j]?.getD 0) (hTd : T < d * 65536) (hd : 1 ≤ d) (hj : j < n) {q m : Int} (hq : q = ((T / d : Nat) : Int)) (hm : m = ((T % d : Nat) : Int)) :
  ShI w ((W.setCell ⟨w.heap.size + 1, j, none⟩ (.int .u16 q)).setCell ⟨S + 1, 0, none⟩ (.int .u32 m)) S n d xs j (T % d) (zs.set j (T / d)) ∧ ShS w S n d ((W.setCell ⟨w.heap.size + 1, j, none⟩ (.int .u16 q)).setCell ⟨S + 1, 0, none⟩ (.int .u32 m)) := by
 subst hq
 subst hm
 have hq : T / d < 65536 := (Nat.div_lt_iff_lt_mul (by omega)).2 (by rw [Nat.mul_comm]; exact hTd)
 have h1 := h.toMulI.set j (T / d) hq
 have h2 := h.dv.far (p := ⟨w.heap.size + 1, j, none⟩) (by simp) (.int .u16 ((T / d : Nat) : Int))
 have h3 := h.out.far (p := ⟨w.heap.size + 1, j, none⟩) (by simp; omega) (.int .u16 ((T / d : Nat) : Int))
 have h4 := h.rest.far (p := ⟨w.heap.size + 1, j, none⟩) (by simp; omega) (.int .u16 ((T / d : Nat) : Int))
 have e2 := h2.far (p := ⟨S + 1, 0, none⟩) (by simp; omega) (.int .u32 ((T % d : Nat) : Int))
 have e3 := h3.far (p := ⟨S + 1, 0, none⟩) (by simp) (.int .u32 ((T % d : Nat) : Int))
 have e4 := h4.set_ 0 (.int .u32 ((T % d : Nat) : Int))
 have hlen : j < zs.length := by have := h.len; omega
 refine ⟨⟨⟨h1.len, h1.ok, own_set h1.own h4 (by decide) 0 _, h1.below.setCell (by simp; omega) _, h1.ge⟩, e2, e3, by simpa using e4, ?_, ?_⟩, e2.one, e3.one⟩
 ·rw [Lb.val_drop, Lb.val_drop xs j, List.getElem?_set_self hlen, List.drop_set_of_lt (by omega), h.quo]
  have hr := h.rem
  have hdm := Nat.div_add_mod (Lb.val (xs.drop (j + 1))) d
  generalize Lb.val (xs.drop (j + 1)) = V at hr hdm ⊢
  rw [← hr] at hdm
  have e : xs[j]?.getD 0 + 65536 * V = T + d * (65536 * (V / d)) := by
   rw [Nat.mul_left_comm d 65536 (V / d)]; omega
  rw [e, Nat.add_mul_div_left _ _ (by omega)]
  simp
 ·have hr := h.rem
  rw [Lb.val_drop xs j]
  have hdm := Nat.div_add_mod (Lb.val (xs.drop (j + 1))) d
  generalize Lb.val (xs.drop (j + 1)) = V at hr hdm ⊢
  rw [← hr] at hdm
  have e : xs[j]?.getD 0 + 65536 * V = T + d * (65536 * (V / d)) := by
   rw [Nat.mul_left_comm d 65536 (V / d)]; omega
  rw [e, Nat.add_mul_mod_self_left]
theorem ShI.drew {w W : World} {S n d : Nat} {xs : List Nat} {j r : Nat} {zs : List Nat} (h : ShI w W S n d xs j r zs) : ShI w W.drew S n d xs j r zs := ⟨⟨h.len, h.ok, h.own, h.below.drew, h.ge⟩, h.dv, h.out, h.rest, h.quo, h.rem⟩
def ShK (w : World) (S n d : Nat) (xs : List Nat) (k : Nat) (W : World) : Prop := ∃ j r zs, j + k = n ∧ ShI w W S n d xs j r zs
def ShA (w : World) (S n d : Nat) (xs : List Nat) (k : Nat) (args : Array Value) (W : World) : Prop :=
 ∃ j r zs, j + k + 1 = n ∧ ShI w W S n d xs (j + 1) r zs ∧ args = #[.int .i64 (j : Int), .int .u16 ((xs[j]?.getD 0 : Nat) : Int)]
def ShB (A : Option Addr) (c : Nat) (w : World) (S n d : Nat) (xs : List Nat) (k : Nat) (args : Array Value) (a' : Act) (W : World) : Prop :=
 ShA w S n d xs k args W ∧ a' = { tmps := #[Value.slice A n c, Value.int IntKind.u32 ↑d, undef, Value.pointer (some { block := w.heap.size, off := 0 }),
     Value.slice none 0 0, Value.int IntKind.u32 0, Value.pointer (some { block := S, off := 0 }),
     Value.pointer (some { block := S + 1, off := 0 }), args[0]?.getD undef, args[1]?.getD undef, undef, Value.slice A n c,
     Value.int IntKind.i64 ↑n, Value.slice (some { block := w.heap.size + 1, off := 0 }) n n, Value.slice A n c,
     Value.func (Fn.func 149) #[] #[Value.pointer (some { block := S + 1 + 1, off := 0 })], args[0]?.getD undef,
     args[1]?.getD undef, undef, undef, undef, undef, undef, undef, undef, undef, undef, undef, undef, undef, undef, undef,
     undef, undef, undef, undef], defers := [] }
set_option maxRecDepth 100000 in
set_option maxHeartbeats 1000000 in
theorem short_any (A : Option Addr) (n c : Nat) (a d : Nat) (w : World) (h : R16 w A n c (Lb.limbs a)) (hn : n ≤ 100000) (hd : 1 ≤ d) (hd' : d ≤ 65535) :
  Calls Tryz.prog 160 #[.slice A n c, .int .u32 (d : Int)] w fun e w' => Out16r w w' e (a / d) (a % d) := by
 refine (callsIn_wide (n := 3)).1 ?_
 refine callsIn_of_wp_marks Tryz.func160 rfl trivial ?_
 simp only [Tryz.ntmps160, List.size_toArray, List.length_cons, List.length_nil, Nat.reduceAdd, Nat.reduceSub, Array.replicate_succ, Array.replicate_zero, List.push_toArray, List.append_toArray, List.nil_append, List.cons_append]
 have hcap := h.cap
 have hmax := h.max
 obtain ⟨i0, hi, hz0, hz1, hz2⟩ := info_parts u16_info
 have HH := hide h
 clear h
 gi_wp2_with (gi_at_make; refine wpi_make _ rfl _ _ 33 rfl w.heap.size 51 i0 (.int .u16 0) 1 Tryz.underlying33 hi hz0 hz1 _ n rfl rfl rfl ?c1 ?c2 ?c3 ?_)
 case c1 => rw [hz2]; omega
 case c2 => simp only [maxLen]; omega
 case c3 => simp
 intro w1 hown hgr
 gi_wp2_with ((refine ⟨trivial, ?_⟩; gi_at_call 120; refine (callsIn_wide.2 (down_any _ _ _ _)).mono ?_; rintro e w' ⟨rfl, rfl⟩))
 have hsz := hgr.size
 have hla := HH.out.len
 have e0 : Blk w1 w.heap.size 161 #[.int .u32 (d : Int)] := (Blk.new w 161 #[.int .u32 (d : Int)]).grown hgr (by simp)
 have e1 := Blk.new w1 33 #[.slice (some ⟨w.heap.size + 1, 0, none⟩) n n]
 have e2 := Blk.new (w1.alloc (.cells #[.slice (some ⟨w.heap.size + 1, 0, none⟩) n n] 33)) 161 #[.int .u32 0]
 rw [World.size_alloc] at e2
 have hbl : Below w.heap.size w w1 := ((Below.refl _ w).alloc (Nat.le_refl _) _).grown hgr (by simp) (fun k hk => by cases hk)
 rw [made_u16] at hown
 have hsz2 : w.heap.size + 1 < w1.heap.size := (hown.lt _ rfl).2
 simp only [World.size_alloc] at hsz
 refine rf_law rfl (enters_of Tryz.func149 (by kernel_rfl) rfl) (down_iter (w1.heap.size + 1 + 1) n c A _ (by omega) ?keep) (fun h k => DownK.trans h k) DownK.sim ?hm ?hf
  (ShK w w1.heap.size n d (Lb.limbs a)) (ShA w w1.heap.size n d (Lb.limbs a)) (ShB A c w w1.heap.size n d (Lb.limbs a)) (fun _ _ => False) (fun W => ∃ r zs, ShI w W w1.heap.size n d (Lb.limbs a) 0 r zs) ?i1 ?i2 ?i3 ?i4 ?i5 ?i6 ?asg ?body ?fin ?done ?stop
 case hm => rintro k W W' args ⟨rfl, j, _, ad, _, x, _, rfl⟩; exact ⟨keeps_refl _ _, rfl⟩
 case hf => rintro k W W' ⟨_, rfl⟩; exact keeps_refl _ _
 case keep =>
  intro W hW
  refine ⟨?_, fun hn0 => ?_⟩
  ·exact (hW.cell (p := ⟨w1.heap.size + 1 + 1, 0, none⟩) (by simp)).trans (Blk.one (by have := Blk.new ((w1.alloc (.cells #[.slice (some ⟨w.heap.size + 1, 0, none⟩) n n] 33)).alloc (.cells #[.int .u32 0] 161)) 33 #[.slice A n c]; simpa using this))
  ·obtain ⟨ad, e, hx⟩ := HH.out.some hn0
   refine ⟨ad, e, fun j hj => ⟨(((Lb.limbs a)[j]?.getD 0 : Nat) : Int), ?_⟩⟩
   have hb := block_lt_of_cell (hx j hj)
   have hB : Below w.heap.size w W := (((hbl.alloc (by omega) _).alloc (by simp; omega) _).alloc (by simp; omega) _).trans (hW.mono (by simp; omega))
   exact (hB.cell hb).trans (hx j hj)
 case i1 => rintro k W W' ⟨j, r, zs, h1, h2⟩ hs; exact ⟨j, r, zs, h1, h2.sim hs (by simp; omega)⟩
 case i2 => rintro k args a' W W' ⟨⟨j, r, zs, h1, h2, h3⟩, h5⟩ hs; exact ⟨⟨j, r, zs, h1, h2.sim hs (by simp; omega), h3⟩, h5⟩
 case i3 => rintro c W W' h _; exact h.elim
 case i4 => rintro W W' ⟨r, zs, h2⟩ hs; exact ⟨r, zs, h2.sim hs (by simp; omega)⟩
 case i5 =>
  intro W hW _
  refine ⟨n, 0, List.replicate n 0, by omega, ⟨by simp, Lb.ok_replicate _, ?_, ?_, by omega⟩, ?_, ?_, ?_, ?_, ?_⟩
  ·exact ownsRow_below (((hown.alloc _).alloc _).alloc _) hW
  ·exact (((hbl.alloc (by omega) _).alloc (by simp; omega) _).alloc (by simp; omega) _).trans (hW.mono (by simp; omega))
  ·exact (((e0.alloc _).alloc _).alloc _).below hW (by simp; omega)
  ·exact ((e1.alloc _).alloc _).below hW (by simp; omega)
  ·exact (e2.alloc _).below hW (by simp)
  ·rw [List.drop_of_length_le (by simp), List.drop_of_length_le (by omega)]; simp
  ·rw [List.drop_of_length_le (by omega)]; simp
 case i6 =>
  rintro k W W' args ⟨j, r, zs, hj, h1⟩ ⟨rfl, j', hj', ad, e, x, hx, rfl⟩
  obtain rfl : j = j' + 1 := by omega
  refine ⟨j', r, zs, by omega, h1, ?_⟩
  obtain ⟨ad', e', hx'⟩ := HH.out.some (by omega)
  rw [e] at e'; cases e'
  have := (h1.below.cell (block_lt_of_cell (hx' j' (by omega)))).trans (hx' j' (by omega))
  rw [this] at hx; cases hx; rfl
 case asg =>
  rintro l k args W ⟨j, r, zs, hj, hd, rfl⟩ _
  gi_wp2
  exact ⟨keeps_refl _ _, fun x => x, ⟨j, r, zs, hj, hd, rfl⟩, rfl⟩
 case body =>
  rintro l k args a' W hlw hlr ⟨⟨j, r, zs, hj, h1, rfl⟩, rfl⟩
  have hb1 := h1.dv.one
  have hb2 := h1.out.one
  have hb3 := h1.rest.one
  have hbf := h1.rest.frozen 0
  obtain ⟨hc1, hc2⟩ := h1.toMulI.cell j (by omega)
  have hr : r < d := by rw [h1.rem]; exact Nat.mod_lt _ (by omega)
  have hxb := Lb.getD_lt HH.out.ok j
  have hxb' := Lb.getD_lt HH.out.ok j
  have hor := or32 r _ (by omega) hxb
  obtain ⟨T, hT⟩ : ∃ T, T = r * 65536 + (Lb.limbs a)[j]?.getD 0 := ⟨_, rfl⟩
  rw [← hT] at hor
  have hT1 : T < d * 65536 := by rw [hT]; omega
  have hT2 : T ≤ 4294967295 := by omega
  have HT := Lib.hid hT
  have hd0 : ¬ d = 0 := by omega
  have HI := hide h1
  have hjn : j < n := by omega
  have HJ := Lib.hid hj
  clear h1 hj hlr hown e0 e1 e2 hla hT hxb'
  simp only [List.getElem?_toArray, List.getElem?_cons_zero, List.getElem?_cons_succ, Option.getD_some]
  gi_wp2
  refine wpi_region_held (isWide_round l) (ShS w w1.heap.size n d) 12 #[false, false, false, false, false, false, false, false, false, false, false, false] rfl rfl (by kernel_rfl) (by kernel_rfl) ?_
  have hS : ShS w w1.heap.size n d W.drew := ⟨hb1, hb2⟩
  refine takeH 0 23 rfl rfl (by kernel_rfl) (by kernel_rfl) (by kernel_rfl) rfl hS (by rintro w' ⟨s1, s2⟩; go_simp; with_reducible rfl) ?_
  simp only [List.setIfInBounds_toArray, List.set_cons_zero, List.set_cons_succ]
  refine takeH 1 24 rfl rfl (by kernel_rfl) (by kernel_rfl) (by kernel_rfl) rfl hS (by rintro w' ⟨s1, s2⟩; go_simp; with_reducible rfl) ?_
  simp only [List.setIfInBounds_toArray, List.set_cons_zero, List.set_cons_succ]
  refine takeH 2 25 rfl rfl (by kernel_rfl) (by kernel_rfl) (by kernel_rfl) rfl hS (by rintro w' ⟨s1, s2⟩; go_simp; with_reducible rfl) ?_
  simp only [List.setIfInBounds_toArray, List.set_cons_zero, List.set_cons_succ]
  refine takeH 3 26 rfl rfl (by kernel_rfl) (by kernel_rfl) (by kernel_rfl) rfl hS (by rintro w' ⟨s1, s2⟩; go_simp; with_reducible rfl) ?_
  simp only [List.setIfInBounds_toArray, List.set_cons_zero, List.set_cons_succ]
  refine takeH 4 27 rfl rfl (by kernel_rfl) (by kernel_rfl) (by kernel_rfl) rfl hS (by rintro w' ⟨s1, s2⟩; go_simp; with_reducible rfl) ?_
  simp only [List.setIfInBounds_toArray, List.set_cons_zero, List.set_cons_succ]
  refine takeH 5 28 rfl rfl (by kernel_rfl) (by kernel_rfl) (by kernel_rfl) rfl hS (by rintro w' ⟨s1, s2⟩; go_simp; with_reducible rfl) ?_
  simp only [List.setIfInBounds_toArray, List.set_cons_zero, List.set_cons_succ]
  refine takeH 6 29 rfl rfl (by kernel_rfl) (by kernel_rfl) (by kernel_rfl) rfl hS (by rintro w' ⟨s1, s2⟩; go_simp; with_reducible rfl) ?_
  simp only [List.setIfInBounds_toArray, List.set_cons_zero, List.set_cons_succ]
  refine takeH 7 30 rfl rfl (by kernel_rfl) (by kernel_rfl) (by kernel_rfl) rfl hS (by rintro w' ⟨s1, s2⟩; go_simp; with_reducible rfl) ?_
  simp only [List.setIfInBounds_toArray, List.set_cons_zero, List.set_cons_succ]
  refine takeH 8 31 rfl rfl (by kernel_rfl) (by kernel_rfl) (by kernel_rfl) rfl hS (by rintro w' ⟨s1, s2⟩; go_simp; with_reducible rfl) ?_
  simp only [List.setIfInBounds_toArray, List.set_cons_zero, List.set_cons_succ]
  refine takeH 9 32 rfl rfl (by kernel_rfl) (by kernel_rfl) (by kernel_rfl) rfl hS (by rintro w' ⟨s1, s2⟩; go_simp; with_reducible rfl) ?_
  simp only [List.setIfInBounds_toArray, List.set_cons_zero, List.set_cons_succ]
  have hq : IntKind.u16.wrap (IntKind.u32.wrap ((T : Int) / (d : Int))) = ((T / d : Nat) : Int) := wrap_quo hT1 (by omega)
  have hm : (T : Int).tmod (d : Int) = ((T % d : Nat) : Int) := by rw [Int.tmod_eq_emod_of_nonneg (by omega)]; simp
  have hst := HI.out.step1 (by omega) (.int .u16 (IntKind.u16.wrap (IntKind.u32.wrap ((T : Int) / (d : Int)))))
  have hnx := HI.out.next (by omega) HT.out hT1 hd hjn hq hm
  have HST := hide hst
  have HNX := hide hnx
  clear hq hm hst hnx
  have hbc := (HI.out.rest.far (p := ⟨w.heap.size + 1, j, none⟩) (by simp; omega) (.int .u16 (IntKind.u16.wrap (IntKind.u32.wrap ((T : Int) / (d : Int)))))).one
  refine onlyH 10 rfl (by kernel_rfl) rfl ?_
  go_simp
  refine ⟨HST.out, onlyH 11 rfl (by kernel_rfl) rfl ?_⟩
  go_simp
  refine ⟨HNX.out.2, wpAnyH_done (by kernel_rfl) ?_ _⟩
  refine ⟨keeps_drew (keeps_trans (keeps_setCell _ _ _ _) (keeps_setCell _ _ _ _)), downK_of HH.out ((((Below.refl _ _).setCell (by simp) _).setCell (by simp; omega) _).drew) ?_, j, _, _, by have := HJ.out; omega, HNX.out.1.drew⟩
  show World.cell? (World.setCell (World.setCell _ _ _) _ _) _ = _
  rw [World.cell?_setCell_other _ _ _ _ (by simp), World.cell?_setCell_other _ _ _ _ (by simp <;> omega)]
 case fin =>
  rintro k W W' ⟨j, r, zs, hj, h1⟩ ⟨rfl, rfl⟩
  obtain rfl : j = 0 := by omega
  exact ⟨r, zs, h1⟩
 case stop => rintro D c W _ h; exact h.elim
 case done =>
  rintro D W hD ⟨r, zs, h1⟩ hK
  have hb2 := h1.out.one
  have hb3 := h1.rest.one
  have HI := hide h1
  clear h1 hown e0 e1 e2 hla
  gi_wp2
  refine wpi_region_held isWide (fun W' => W'.cell? ⟨w1.heap.size, 0, none⟩ = some (.slice (some ⟨w.heap.size + 1, 0, none⟩) n n) ∧ W'.cell? ⟨w1.heap.size + 1, 0, none⟩ = some (.int .u32 (r : Int))) 5 #[false, false, false, false, false] rfl rfl (by kernel_rfl) (by kernel_rfl) ?_
  have hS : W.drew.cell? ⟨w1.heap.size, 0, none⟩ = some (.slice (some ⟨w.heap.size + 1, 0, none⟩) n n) ∧ W.drew.cell? ⟨w1.heap.size + 1, 0, none⟩ = some (.int .u32 (r : Int)) := ⟨hb2, hb3⟩
  refine takeH 0 33 rfl rfl (by kernel_rfl) (by kernel_rfl) (by kernel_rfl) rfl hS (by rintro w' ⟨s1, s2⟩; go_simp; with_reducible rfl) ?_
  simp only [List.setIfInBounds_toArray, List.set_cons_zero, List.set_cons_succ]
  refine takeH 2 35 rfl rfl (by kernel_rfl) (by kernel_rfl) (by kernel_rfl) rfl hS (by rintro w' ⟨s1, s2⟩; go_simp; with_reducible rfl) ?_
  simp only [List.setIfInBounds_toArray, List.set_cons_zero, List.set_cons_succ]
  refine onlyH 1 rfl (by kernel_rfl) rfl ?_
  go_simp
  refine (trimmed_any _ _ _ zs _ ⟨(Rd.of_lit HI.out.own).below (Below.refl _ W).drew (Nat.le_refl _), HI.out.ok⟩).mono ?_
  rintro e w' ⟨rfl, rfl⟩
  refine ⟨hS, ?_⟩
  refine takeH 3 4 rfl rfl (by kernel_rfl) (by kernel_rfl) (by kernel_rfl) rfl hS (by rintro w' ⟨s1, s2⟩; go_simp; with_reducible rfl) ?_
  simp only [List.setIfInBounds_toArray, List.set_cons_zero, List.set_cons_succ]
  refine takeH 4 5 rfl rfl (by kernel_rfl) (by kernel_rfl) (by kernel_rfl) rfl hS (by rintro w' ⟨s1, s2⟩; go_simp; with_reducible rfl) ?_
  simp only [List.setIfInBounds_toArray, List.set_cons_zero, List.set_cons_succ]
  refine wpAnyH_done (by kernel_rfl) (onlyN_intro ?_) _
  gi_wp2
  refine leave_mark hK (results_tmp2 rfl _ _ _) ?_
  have e2 := (R16.mk (Rd.of_lit HI.out.own) HI.out.ok).take (Lb.trim zs).length (by have := Lb.trim_length_le zs; have := HI.out.len; omega)
  rw [← Lb.trim_prefix] at e2
  have hq := HI.out.quo
  have hr := HI.out.rem
  simp only [List.drop_zero, Lb.val_limbs] at hq hr
  have e3 : Lb.trim zs = Lb.limbs (a / d) := by rw [Lb.trim_limbs zs HI.out.ok, hq]
  rw [e3] at e2
  refine ⟨some ⟨w.heap.size + 1, 0, none⟩, n, ?_, ?_, fun ad e => by cases e; simp, below_putObj HI.out.below.drew (by simp at hD; omega) _⟩
  ·show Ending.returned (.tuple #[.slice (some ⟨w.heap.size + 1, 0, none⟩) (Lb.trim zs).length n, .int .u32 (r : Int)]) = _
   rw [e3, hr]
  ·exact (e2.below (Below.refl _ W).drew (Nat.le_refl _)).sim (Sim.putObj (B := 0) _ hK rfl (Nat.zero_le _))
end Go.Proofs.YtjbcalbbhomkjaaGreat
