import Derived.Test.YtjbcalbbhomkjaaGreatECmp
namespace Go.Proofs.YtjbcalbbhomkjaaGreat
open Go.RowKit
theorem u16_info : (Tryz.prog.info? 51).map (fun i => (i.zero, i.size, i.bytes)) = some (some (.int .u16 0), 1, 2) := by kernel_rfl
set_option maxRecDepth 100000 in
set_option maxHeartbeats 400000 in
theorem add1_any (bc bo : Nat) (B : Nat) (m cy : Int) (v : Value) (k : Nat) (zs : List Nat) (w : World) (hm : 0 ≤ m) (hm' : m ≤ 131070) (hc : 0 ≤ cy) (hc' : cy ≤ 1)
  (h1 : Blk w bc 161 #[.int .u32 cy]) (h2 : Blk w bo 33 #[v]) (hv : w.ownsRow B 51 1 v k (zs.map u16)) (hk : k ≤ 1000000) (hB1 : B ≤ bc) (hB2 : B ≤ bo) (hne : bc ≠ bo) (hBw : B ≤ w.heap.size) :
  Calls Tryz.prog 164 #[.int .u32 m, .pointer (some ⟨bc, 0, none⟩), .pointer (some ⟨bo, 0, none⟩)] w fun e w' => e = .returned (.tuple #[]) ∧
   Blk w' bc 161 #[.int .u32 ((m + cy) / 65536)] ∧ (∃ v', Blk w' bo 33 #[v'] ∧ w'.ownsRow B 51 1 v' (k + 1) ((zs ++ [((m + cy) % 65536).toNat]).map u16)) ∧ Below B w w' := by
 obtain ⟨i0, hi, hz0, hz1, hz2⟩ := info_parts u16_info
 have hc1 := h1.one
 have hf1 := h1.frozen 0
 have hc2 := h2.one
 have hf2 := h2.frozen 0
 have H1 := hide h1
 have H2 := hide h2
 have hB := hide hBw
 clear h1 h2
 go_enter Tryz.func164, Tryz.ntmps164
 go_wp2_with (at_builtin; refine wp_app _ rfl _ _ 33 rfl B 51 i0 (.int .u16 0) 1 2 Tryz.underlying33 hi hz0 hz1 hz2 rfl (by decide) _ _ _ rfl (hv.alloc _) ⟨w.heap.size, 0, none⟩ 0 1 [.int .u16 ((m + cy) % 65536)] rfl rfl (cells_one _ _ _) ?c1 ?c2 ?c3 ?c4 ?_)
 case c1 => simp [Value.oneCell']
 case c2 => omega
 case c3 => omega
 case c4 => have := hB.out; simp; omega
 intro g cap w1 hown hgr hat hcap hcap'
 have e1 := ((H1.out.alloc (.cells #[.int .u16 ((m + cy) % 65536)] 51)).grown hgr (own_blk_ne hv H1.out (by decide)))
 have e2 := ((H2.out.alloc (.cells #[.int .u16 ((m + cy) % 65536)] 51)).grown hgr (own_blk_ne hv H2.out (by decide)))
 have hbl : Below B w w1 := (((Below.refl B w).alloc hB.out _).grown hgr (by have := hB.out; simp; omega) (fun k hk => (hv.lt k hk).1))
 have hc1 := e1.one
 have hf1 := e1.frozen 0
 have hc2 := e2.one
 have hf2 := e2.frozen 0
 have E1 := hide e1
 have E2 := hide e2
 have HB := hide hbl
 have HO := hide hown
 clear e1 e2 hbl hgr hat hown
 go_wp2
 go_end0
 have e3 := E2.out.set_ 0 (.slice (some ⟨g, 0, none⟩) (k + 1) cap)
 have e4 := E1.out.far (p := ⟨bo, 0, none⟩) hne (.slice (some ⟨g, 0, none⟩) (k + 1) cap)
 refine ⟨rfl, e4.set_ 0 _, ⟨_, e3.far (p := ⟨bc, 0, none⟩) (by simpa using hne.symm) _, ?_⟩, (HB.out.setCell hB2 _).setCell hB1 _⟩
 have e5 := own_set (own_set HO.out E2.out (by decide) 0 (.slice (some ⟨g, 0, none⟩) (k + 1) cap)) e4 (by decide) 0 (.int .u32 ((m + cy) / 65536))
 have e6 : Value.int .u16 ((m + cy) % 65536) = u16 ((m + cy) % 65536).toNat := by unfold u16; rw [Int.toNat_of_nonneg (by omega)]
 rw [List.map_append, List.map_cons, List.map_nil, ← e6]
 exact e5
namespace Lb
theorem add_round {xs ys zs : List Nat} {k cy : Nat} (hz : zs.length = k)
  (h : val zs + 65536 ^ k * cy = val (xs.take k) + val (ys.take k)) :
  val (zs ++ [(xs[k]?.getD 0 + ys[k]?.getD 0 + cy) % 65536]) + 65536 ^ (k + 1) * ((xs[k]?.getD 0 + ys[k]?.getD 0 + cy) / 65536) = val (xs.take (k + 1)) + val (ys.take (k + 1)) := by
 rw [val_snoc, val_take_succ, val_take_succ, hz]
 have e : 65536 ^ k * ((xs[k]?.getD 0 + ys[k]?.getD 0 + cy) % 65536) + 65536 ^ (k + 1) * ((xs[k]?.getD 0 + ys[k]?.getD 0 + cy) / 65536) = 65536 ^ k * (xs[k]?.getD 0 + ys[k]?.getD 0 + cy) := by
  rw [Nat.pow_succ, Nat.mul_assoc, ← Nat.mul_add, Nat.mod_add_div]
 rw [Nat.mul_add, Nat.mul_add] at e
 omega
end Lb
structure AddI (w wr : World) (bo : Nat) (xs ys : List Nat) (k cy : Nat) (zs : List Nat) (v : Value) : Prop where
 len : zs.length = k
 ok : Lb.Ok zs
 sum : Lb.val zs + 65536 ^ k * cy = Lb.val (xs.take k) + Lb.val (ys.take k)
 cy : Blk wr (bo + 1) 161 #[.int .u32 (cy : Int)]
 box : Blk wr bo 33 #[v]
 own : wr.ownsRow w.heap.size 51 1 v k (zs.map u16)
 below : Below w.heap.size w wr
theorem add_cy {x y cy : Nat} (hx : x < 65536) (hy : y < 65536) (hc : cy ≤ 1) : (x + y + cy) / 65536 ≤ 1 := by omega
theorem AddI.next {w wr w2 : World} {bo : Nat} {xs ys : List Nat} {k cy : Nat} {zs : List Nat} {v v2 : Value} {m : Int} (h : AddI w wr bo xs ys k cy zs v) (hm : m = ((xs[k]?.getD 0 + ys[k]?.getD 0 : Nat) : Int))
  (h1 : Blk w2 (bo + 1) 161 #[.int .u32 ((m + cy) / 65536)]) (h2 : Blk w2 bo 33 #[v2]) (h3 : w2.ownsRow w.heap.size 51 1 v2 (k + 1) ((zs ++ [((m + cy) % 65536).toNat]).map u16)) (h4 : Below w.heap.size wr w2) :
  AddI w w2 bo xs ys (k + 1) ((xs[k]?.getD 0 + ys[k]?.getD 0 + cy) / 65536) (zs ++ [(xs[k]?.getD 0 + ys[k]?.getD 0 + cy) % 65536]) v2 := by
 subst hm
 have e1 : (((xs[k]?.getD 0 + ys[k]?.getD 0 : Nat) : Int) + (cy : Int)) = ((xs[k]?.getD 0 + ys[k]?.getD 0 + cy : Nat) : Int) := by omega
 rw [e1] at h1 h3
 have e2 : (((xs[k]?.getD 0 + ys[k]?.getD 0 + cy : Nat) : Int) % 65536).toNat = (xs[k]?.getD 0 + ys[k]?.getD 0 + cy) % 65536 := by omega
 rw [e2] at h3
 refine ⟨by rw [List.length_append, h.len]; rfl, Lb.ok_snoc h.ok (Nat.mod_lt _ (by omega)), Lb.add_round h.len h.sum, ?_, h2, h3, h.below.trans h4⟩
 have e3 : ((xs[k]?.getD 0 + ys[k]?.getD 0 + cy : Nat) : Int) / 65536 = (((xs[k]?.getD 0 + ys[k]?.getD 0 + cy) / 65536 : Nat) : Int) := by omega
 rw [e3] at h1; exact h1
namespace Lb
theorem add_end0 {zs : List Nat} {n : Nat} {a b : Nat} (hx : (limbs a).length = n) (hz : zs.length = n) (ok : Ok zs) (h : val zs = a + b) : zs = limbs (a + b) := by
 rw [← h]
 refine eq_limbs_of_top ok ?_
 rcases Nat.eq_zero_or_pos n with h0 | h0
 ·left; exact List.eq_nil_of_length_eq_zero (by omega)
 ·right
  have h1 : a ≠ 0 := by rintro rfl; simp at hx; omega
  have h2 := le_of_limbs_length h1
  rw [hz, h, ← hx]; omega
end Lb
theorem add_last {w wr : World} {bo n n' a b : Nat} {zs : List Nat} {v : Value} (h : AddI w wr bo (Lb.limbs a) (Lb.limbs b) n 0 zs v) (ha : (Lb.limbs a).length = n) (hb : (Lb.limbs b).length = n') (hle : n' ≤ n) : zs = Lb.limbs (a + b) := by
 have hs := h.sum
 rw [List.take_of_length_le (by omega), List.take_of_length_le (by omega), Lb.val_limbs, Lb.val_limbs] at hs
 exact Lb.add_end0 ha h.len h.ok (by omega)
theorem add_last1 {w wr : World} {bo n n' a b : Nat} {zs : List Nat} {v : Value} (h : AddI w wr bo (Lb.limbs a) (Lb.limbs b) n 1 zs v) (ha : (Lb.limbs a).length = n) (hb : (Lb.limbs b).length = n') (hle : n' ≤ n) : zs ++ [(((0 : Int) + ((1 : Nat) : Int)) % 65536).toNat] = Lb.limbs (a + b) := by
 have hs := h.sum
 rw [List.take_of_length_le (by omega), List.take_of_length_le (by omega), Lb.val_limbs, Lb.val_limbs] at hs
 show zs ++ [1] = _
 have e : a + b = Lb.val (zs ++ [1]) := by rw [Lb.val_snoc, h.len]; omega
 rw [e]
 exact Lb.eq_limbs (Lb.ok_snoc h.ok (by omega)) (Lb.norm_snoc (by omega))
set_option maxRecDepth 100000 in
set_option maxHeartbeats 1000000 in
theorem add_core (s : Bool) (A A' : Option Addr) (n n' c c' : Nat) (a b : Nat) (w : World) (h : R16 w A n c (Lb.limbs a)) (h' : R16 w A' n' c' (Lb.limbs b)) (hle : n' ≤ n) (hs : s = false → n' < n) (hn : n ≤ 100000) :
  Calls Tryz.prog 125 (bif s then #[.slice A n c, .slice A' n' c'] else #[.slice A' n' c', .slice A n c]) w fun e w' => Out16 w w' e (a + b) := by
 have hcap := h.cap
 have hmax := h.max
 have hcap' := h'.cap
 have hmax' := h'.max
 obtain ⟨i0, hi, hz0, hz1, hz2⟩ := info_parts u16_info
 have HH := hide h
 have HH' := hide h'
 clear h h'
 cases s
 all_goals
  simp only [cond_true, cond_false]
  first | (have hlt0 : n' < n := hs rfl; clear hs) | clear hs
  go_enter Tryz.func125, Tryz.ntmps125
  go_wp2_with (at_make; refine wpList_make_own _ rfl _ _ 33 rfl w.heap.size 51 i0 (.int .u16 0) 1 Tryz.underlying33 hi hz0 hz1 _ _ _ (n + 1) rfl rfl (by omega) ?c1 ?c2 ?c3 ?_)
  case c1 => rw [hz2]; omega
  case c2 => simp only [maxLen]; omega
  case c3 => exact Nat.le_refl _
  intro w1 hown hgr
  go_wp2
  have hsz := hgr.size
  go_loopw [25] (fun i wr => ∃ (k cy : Nat) (zs : List Nat) (v : Value), k ≤ n ∧ i = .int .i64 (k : Int) ∧ cy ≤ 1 ∧ AddI w wr w1.heap.size (Lb.limbs a) (Lb.limbs b) k cy zs v) (fun i _ => n - (intOf i).toNat)
  case atStart =>
   refine ⟨0, 0, [], .slice (some ⟨w.heap.size, 0, none⟩) 0 (n + 1), by omega, rfl, by omega, rfl, Lb.ok_nil, by simp, ?_, ?_, ?_, ?_⟩
   ·have := Blk.new (w1.alloc (.cells #[.slice (some ⟨w.heap.size, 0, none⟩) 0 (n + 1)] 33)) 161 #[.int .u32 0]
    simpa using this
   ·exact (Blk.new w1 33 #[.slice (some ⟨w.heap.size, 0, none⟩) 0 (n + 1)]).alloc _
   ·exact (hown.alloc _).alloc _
   ·exact (((Below.refl _ _).grown hgr (Nat.le_refl _) (fun k hk => by cases hk)).alloc hsz _).alloc (by simp; omega) _
  case round =>
   obtain ⟨k, cy, zs, v, hk, rfl, hcy, hI⟩ := hrel
   have HI := hide hI
   clear hI
   by_cases hlt : k < n
   ·obtain ⟨ad, rfl, hx⟩ := HH.out.some (by omega)
    have hxk := (HI.out.below.cell (block_lt_of_cell (hx k hlt))).trans (hx k hlt)
    have hxb := Lb.getD_lt HH.out.ok k
    clear hx
    by_cases hlt' : k < n'
    ·obtain ⟨ad', rfl, hy⟩ := HH'.out.some (by omega)
     have hyk := (HI.out.below.cell (block_lt_of_cell (hy k hlt'))).trans (hy k hlt')
     have hyb := Lb.getD_lt HH'.out.ok k
     clear hy
     go_wp2_with (go_at_call 164; refine (add1_any _ _ w.heap.size _ cy v k zs _ (by omega) (by omega) (by omega) (by omega) HI.out.cy HI.out.box HI.out.own (by omega) (by omega) (by omega) (by omega) HI.out.below.size).mono ?_; rintro e w2 ⟨rfl, h1, ⟨v2, h2, h3⟩, h4⟩)
     go_roundw
     case rel => exact ⟨k + 1, _, _, v2, by omega, by go_num, add_cy hxb hyb hcy, HI.out.next rfl h1 h2 h3 h4⟩
     case measure => simp [intOf]; omega
    ·have hy0 := List.getElem?_eq_none (l := Lb.limbs b) (i := k) (by have := HH'.out.len; omega)
     have HY := Lib.hid hy0
     clear hy0
     go_wp2_with (go_at_call 164; refine (add1_any _ _ w.heap.size _ cy v k zs _ (by omega) (by omega) (by omega) (by omega) HI.out.cy HI.out.box HI.out.own (by omega) (by omega) (by omega) (by omega) HI.out.below.size).mono ?_; rintro e w2 ⟨rfl, h1, ⟨v2, h2, h3⟩, h4⟩)
     go_roundw
     case rel => exact ⟨k + 1, _, _, v2, by omega, by go_num, add_cy hxb (y := (Lb.limbs b)[k]?.getD 0) (by rw [HY.out]; decide) hcy, HI.out.next (by rw [HY.out]; simp) h1 h2 h3 h4⟩
     case measure => simp [intOf]; omega
   ·obtain rfl : k = n := by omega
    have hc1 := HI.out.cy.one
    have HA := Lib.hid HH.out.len
    have HB := Lib.hid HH'.out.len
    rcases Nat.eq_zero_or_pos cy with h0 | h0
    ·subst h0
     obtain ⟨A0, d0, rfl, hrd, hfr⟩ := own_slice HI.out.own
     have hc2 := HI.out.box.one
     have HR := hide hrd
     have HF := hide hfr
     clear hrd hfr
     go_wp2
     go_ret
     exact Out16.mk HR.out (add_last HI.out HA.out HB.out hle) HF.out HI.out.below
    ·obtain rfl : cy = 1 := by omega
     clear h0
     go_wp2_with (go_at_call 164; refine (add1_any _ _ w.heap.size _ (1 : Nat) v k zs _ (by omega) (by omega) (by omega) (by omega) HI.out.cy HI.out.box HI.out.own (by omega) (by omega) (by omega) (by omega) HI.out.below.size).mono ?_; rintro e w2 ⟨rfl, h1, ⟨v2, h2, h3⟩, h4⟩; have H3 := hide h3; clear h3; obtain ⟨A0, d0, rfl, hrd, hfr⟩ := own_slice H3.out; have hc2 := h2.one; have HR := hide hrd; have HF := hide hfr; have H4 := hide h4; clear hrd hfr h1 h2 h4)
     go_ret
     exact Out16.mk HR.out (add_last1 HI.out HA.out HB.out hle) HF.out (HI.out.below.trans H4.out)
theorem add_any (A A' : Option Addr) (n n' c c' : Nat) (a b : Nat) (w : World) (h : R16 w A n c (Lb.limbs a)) (h' : R16 w A' n' c' (Lb.limbs b)) (hn : n ≤ 100000) (hn' : n' ≤ 100000) :
  Calls Tryz.prog 125 #[.slice A n c, .slice A' n' c'] w fun e w' => Out16 w w' e (a + b) := by
 by_cases hle : n' ≤ n
 ·exact add_core true A A' n n' c c' a b w h h' hle (fun h => by cases h) hn
 ·have := add_core false A' A n' n c' c b a w h' h (by omega) (fun _ => by omega) hn'
  rw [Nat.add_comm b a] at this
  exact this
end Go.Proofs.YtjbcalbbhomkjaaGreat
