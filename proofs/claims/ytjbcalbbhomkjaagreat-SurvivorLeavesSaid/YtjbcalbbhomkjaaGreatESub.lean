import Derived.Test.YtjbcalbbhomkjaaGreatEAdd
namespace Go.Proofs.YtjbcalbbhomkjaaGreat
open Go.RowKit
def bwOf (x : Int) : Int := if x < 0 then 1 else 0
theorem sub_bit (x : Int) (h : -2147483648 ≤ x) (h' : x ≤ 2147483647) : bits BinOp.and IntKind.i32 (x / 2147483648) 1 = bwOf x := by
 unfold bwOf
 by_cases hx : x < 0
 ·rw [show x / 2147483648 = -1 from by omega, if_pos hx]; decide
 ·rw [show x / 2147483648 = 0 from by omega, if_neg hx]; decide
set_option maxRecDepth 100000 in
set_option maxHeartbeats 400000 in
theorem sub1_any (bc bo : Nat) (B : Nat) (m cy : Int) (v : Value) (k : Nat) (zs : List Nat) (w : World) (hm : -65535 ≤ m) (hm' : m ≤ 65535) (hc : 0 ≤ cy) (hc' : cy ≤ 1)
  (h1 : Blk w bc 21 #[.int .i32 cy]) (h2 : Blk w bo 33 #[v]) (hv : w.ownsRow B 51 1 v k (zs.map u16)) (hk : k ≤ 1000000) (hB1 : B ≤ bc) (hB2 : B ≤ bo) (hne : bc ≠ bo) (hBw : B ≤ w.heap.size) :
  Calls Tryz.prog 165 #[.int .i32 m, .pointer (some ⟨bc, 0, none⟩), .pointer (some ⟨bo, 0, none⟩)] w fun e w' => e = .returned (.tuple #[]) ∧
   Blk w' bc 21 #[.int .i32 (bwOf (m - cy))] ∧ (∃ v', Blk w' bo 33 #[v'] ∧ w'.ownsRow B 51 1 v' (k + 1) ((zs ++ [((m - cy) % 65536).toNat]).map u16)) ∧ Below B w w' := by
 obtain ⟨i0, hi, hz0, hz1, hz2⟩ := info_parts u16_info
 have hc1 := h1.one
 have hf1 := h1.frozen 0
 have hc2 := h2.one
 have hf2 := h2.frozen 0
 have H1 := hide h1
 have H2 := hide h2
 have hB := hide hBw
 clear h1 h2
 go_enter Tryz.func165, Tryz.ntmps165
 go_wp2_with (at_builtin; refine wp_app _ rfl _ _ 33 rfl B 51 i0 (.int .u16 0) 1 2 Tryz.underlying33 hi hz0 hz1 hz2 rfl (by decide) _ _ _ rfl (hv.alloc _) ⟨w.heap.size, 0, none⟩ 0 1 [.int .u16 ((m - cy) % 65536)] rfl rfl (cells_one _ _ _) ?c1 ?c2 ?c3 ?c4 ?_)
 case c1 => simp [Value.oneCell']
 case c2 => omega
 case c3 => omega
 case c4 => have := hB.out; simp; omega
 intro g cap w1 hown hgr hat hcap hcap'
 have e1 := ((H1.out.alloc (.cells #[.int .u16 ((m - cy) % 65536)] 51)).grown hgr (own_blk_ne hv H1.out (by decide)))
 have e2 := ((H2.out.alloc (.cells #[.int .u16 ((m - cy) % 65536)] 51)).grown hgr (own_blk_ne hv H2.out (by decide)))
 have hbl : Below B w w1 := (((Below.refl B w).alloc hB.out _).grown hgr (by have := hB.out; simp; omega) (fun k hk => (hv.lt k hk).1))
 have hc1 := e1.one
 have hf1 := e1.frozen 0
 have hc2 := e2.one
 have hf2 := e2.frozen 0
 have E1 := hide e1
 have E2 := hide e2
 have HB := hide hbl
 have HO := hide hown
 clear e1 e2 hbl hgr hat hown
 go_wp2
 go_end0
 have eb := sub_bit (m - cy) (by omega) (by omega)
 rw [eb]
 have e3 := E2.out.set_ 0 (.slice (some ⟨g, 0, none⟩) (k + 1) cap)
 have e4 := E1.out.far (p := ⟨bo, 0, none⟩) hne (.slice (some ⟨g, 0, none⟩) (k + 1) cap)
 refine ⟨rfl, ?_, ⟨_, e3.far (p := ⟨bc, 0, none⟩) (by simpa using hne.symm) _, ?_⟩, (HB.out.setCell hB2 _).setCell hB1 _⟩
 ·have := e4.set_ 0 (.int .i32 (bwOf (m - cy)))
  simpa using this
 have e5 := own_set (own_set HO.out E2.out (by decide) 0 (.slice (some ⟨g, 0, none⟩) (k + 1) cap)) e4 (by decide) 0 (.int .i32 (bwOf (m - cy)))
 have e6 : Value.int .u16 ((m - cy) % 65536) = u16 ((m - cy) % 65536).toNat := by unfold u16; rw [Int.toNat_of_nonneg (by omega)]
 rw [e6] at e5
 simpa using e5
namespace Lb
theorem sub_round {xs ys zs : List Nat} {k cy : Nat} (hz : zs.length = k) (hcy : cy ≤ 1) (hx : Ok xs) (hy : Ok ys)
  (h : val zs + val (ys.take k) + 65536 ^ k * cy = val (xs.take k) + 65536 ^ k * cy + 65536 ^ k * cy) :
  ∃ d cy' : Nat, cy' ≤ 1 ∧ d < 65536 ∧ (((xs[k]?.getD 0 : Nat) : Int) - ((ys[k]?.getD 0 : Nat) : Int) - (cy : Int)) % 65536 = (d : Int) ∧ bwOf (((xs[k]?.getD 0 : Nat) : Int) - ((ys[k]?.getD 0 : Nat) : Int) - (cy : Int)) = (cy' : Int) ∧
   val (zs ++ [d]) + val (ys.take (k + 1)) = val (xs.take (k + 1)) + 65536 ^ (k + 1) * cy' := by
 have hx := getD_lt hx k
 have hy := getD_lt hy k
 unfold bwOf
 simp only [val_snoc, val_take_succ, hz, Nat.pow_succ]
 generalize xs[k]?.getD 0 = x at *
 generalize ys[k]?.getD 0 = y at *
 generalize val (xs.take k) = X at *
 generalize val (ys.take k) = Y at *
 generalize val zs = Z at *
 generalize 65536 ^ k = q at *
 by_cases hn : (x : Int) - (y : Int) - (cy : Int) < 0
 ·refine ⟨x + 65536 - y - cy, 1, by omega, by omega, by omega, by rw [if_pos hn]; rfl, ?_⟩
  have e : q * (x + 65536 - y - cy) + q * y + q * cy = q * x + q * 65536 := by rw [← Nat.mul_add, ← Nat.mul_add, ← Nat.mul_add]; congr 1; omega
  rw [Nat.mul_one]; omega
 ·refine ⟨x - y - cy, 0, by omega, by omega, by omega, by rw [if_neg hn]; rfl, ?_⟩
  have e : q * (x - y - cy) + q * y + q * cy = q * x := by rw [← Nat.mul_add, ← Nat.mul_add]; congr 1; omega
  rw [Nat.mul_zero]; omega
end Lb
structure SubI (w wr : World) (bo : Nat) (xs ys : List Nat) (k cy : Nat) (zs : List Nat) (v : Value) : Prop where
 len : zs.length = k
 ok : Lb.Ok zs
 sum : Lb.val zs + Lb.val (ys.take k) = Lb.val (xs.take k) + 65536 ^ k * cy
 cy : Blk wr (bo + 1) 21 #[.int .i32 (cy : Int)]
 box : Blk wr bo 33 #[v]
 own : wr.ownsRow w.heap.size 51 1 v k (zs.map u16)
 below : Below w.heap.size w wr
theorem SubI.next {w wr w2 : World} {bo : Nat} {xs ys : List Nat} {k cy : Nat} {zs : List Nat} {v v2 : Value} {m : Int} (h : SubI w wr bo xs ys k cy zs v) (hcy : cy ≤ 1) (hx : Lb.Ok xs) (hy : Lb.Ok ys) (hm : m = ((xs[k]?.getD 0 : Nat) : Int) - ((ys[k]?.getD 0 : Nat) : Int))
  (h1 : Blk w2 (bo + 1) 21 #[.int .i32 (bwOf (m - cy))]) (h2 : Blk w2 bo 33 #[v2]) (h3 : w2.ownsRow w.heap.size 51 1 v2 (k + 1) ((zs ++ [((m - cy) % 65536).toNat]).map u16)) (h4 : Below w.heap.size wr w2) :
  ∃ cy' zs', cy' ≤ 1 ∧ SubI w w2 bo xs ys (k + 1) cy' zs' v2 := by
 subst hm
 obtain ⟨d, cy', hc', hd, e1, e2, e3⟩ := Lb.sub_round (k := k) (cy := cy) h.len hcy hx hy (by have := h.sum; omega)
 rw [e1] at h3
 rw [e2] at h1
 exact ⟨cy', zs ++ [d], hc', by rw [List.length_append, h.len]; rfl, Lb.ok_snoc h.ok hd, e3, h1, h2, by simpa using h3, h.below.trans h4⟩
theorem SubI.last {w wr : World} {bo : Nat} {a b n : Nat} {cy : Nat} {zs : List Nat} {v : Value} (h : SubI w wr bo (Lb.limbs a) (Lb.limbs b) n cy zs v) (hcy : cy ≤ 1) (hle : b ≤ a) (hn : (Lb.limbs a).length = n) (hn' : (Lb.limbs b).length ≤ n) : Lb.trim zs = Lb.limbs (a - b) := by
 have hs := h.sum
 rw [List.take_of_length_le (by omega), List.take_of_length_le (by omega), Lb.val_limbs, Lb.val_limbs] at hs
 have hv := Lb.val_lt h.ok
 rw [h.len] at hv
 have h0 : cy = 0 := by
  rcases Nat.eq_zero_or_pos cy with h0 | h0
  ·exact h0
  ·obtain rfl : cy = 1 := by omega
   omega
 subst h0
 rw [Lb.trim_limbs zs h.ok]
 congr 1; omega
set_option maxRecDepth 100000 in
set_option maxHeartbeats 1000000 in
theorem sub_any (A A' : Option Addr) (n n' c c' : Nat) (a b : Nat) (w : World) (h : R16 w A n c (Lb.limbs a)) (h' : R16 w A' n' c' (Lb.limbs b)) (hle : b ≤ a) (hn : n ≤ 100000) :
  Calls Tryz.prog 126 #[.slice A n c, .slice A' n' c'] w fun e w' => Out16 w w' e (a - b) := by
 have hcap := h.cap
 have hmax := h.max
 have hcap' := h'.cap
 have hmax' := h'.max
 have hlen : n' ≤ n := by have := h.len; have := h'.len; have := Lb.limbs_length_mono hle; omega
 obtain ⟨i0, hi, hz0, hz1, hz2⟩ := info_parts u16_info
 have HH := hide h
 have HH' := hide h'
 clear h h'
 go_enter Tryz.func126, Tryz.ntmps126
 go_wp2_with (at_make; refine wpList_make_own _ rfl _ _ 33 rfl w.heap.size 51 i0 (.int .u16 0) 1 Tryz.underlying33 hi hz0 hz1 _ _ _ n rfl rfl (by omega) ?c1 ?c2 ?c3 ?_)
 case c1 => rw [hz2]; omega
 case c2 => simp only [maxLen]; omega
 case c3 => exact Nat.le_refl _
 intro w1 hown hgr
 go_wp2
 have hsz := hgr.size
 go_loopw [17] (fun i wr => ∃ (k cy : Nat) (zs : List Nat) (v : Value), k ≤ n ∧ i = .int .i64 (k : Int) ∧ cy ≤ 1 ∧ SubI w wr w1.heap.size (Lb.limbs a) (Lb.limbs b) k cy zs v) (fun i _ => n - (intOf i).toNat)
 case atStart =>
  refine ⟨0, 0, [], .slice (some ⟨w.heap.size, 0, none⟩) 0 n, by omega, rfl, by omega, rfl, Lb.ok_nil, by simp, ?_, ?_, ?_, ?_⟩
  ·have := Blk.new (w1.alloc (.cells #[.slice (some ⟨w.heap.size, 0, none⟩) 0 n] 33)) 21 #[.int .i32 0]
   simpa using this
  ·exact (Blk.new w1 33 #[.slice (some ⟨w.heap.size, 0, none⟩) 0 n]).alloc _
  ·exact (hown.alloc _).alloc _
  ·exact (((Below.refl _ _).grown hgr (Nat.le_refl _) (fun k hk => by cases hk)).alloc hsz _).alloc (by simp; omega) _
 case round =>
  obtain ⟨k, cy, zs, v, hk, rfl, hcy, hI⟩ := hrel
  have HI := hide hI
  clear hI
  by_cases hlt : k < n
  ·obtain ⟨ad, rfl, hx⟩ := HH.out.some (by omega)
   have hxk := (HI.out.below.cell (block_lt_of_cell (hx k hlt))).trans (hx k hlt)
   have hxb := Lb.getD_lt HH.out.ok k
   clear hx
   by_cases hlt' : k < n'
   ·obtain ⟨ad', rfl, hy⟩ := HH'.out.some (by omega)
    have hyk := (HI.out.below.cell (block_lt_of_cell (hy k hlt'))).trans (hy k hlt')
    have hyb := Lb.getD_lt HH'.out.ok k
    clear hy
    go_wp2_with (go_at_call 165; refine (sub1_any _ _ w.heap.size _ cy v k zs _ (by omega) (by omega) (by omega) (by omega) HI.out.cy HI.out.box HI.out.own (by omega) (by omega) (by omega) (by omega) HI.out.below.size).mono ?_; rintro e w2 ⟨rfl, h1, ⟨v2, h2, h3⟩, h4⟩; obtain ⟨cy', zs', hc', hI'⟩ := HI.out.next hcy HH.out.ok HH'.out.ok rfl h1 h2 h3 h4; have HN := hide hI'; clear h1 h2 h3 h4 hI')
    go_roundw
    case rel => exact ⟨k + 1, _, _, v2, by omega, by go_num, hc', HN.out⟩
    case measure => simp [intOf]; omega
   ·have hy0 := List.getElem?_eq_none (l := Lb.limbs b) (i := k) (by have := HH'.out.len; omega)
    have HY := Lib.hid hy0
    clear hy0
    go_wp2_with (go_at_call 165; refine (sub1_any _ _ w.heap.size _ cy v k zs _ (by omega) (by omega) (by omega) (by omega) HI.out.cy HI.out.box HI.out.own (by omega) (by omega) (by omega) (by omega) HI.out.below.size).mono ?_; rintro e w2 ⟨rfl, h1, ⟨v2, h2, h3⟩, h4⟩; obtain ⟨cy', zs', hc', hI'⟩ := HI.out.next hcy HH.out.ok HH'.out.ok (by rw [HY.out]; simp) h1 h2 h3 h4; have HN := hide hI'; clear h1 h2 h3 h4 hI')
    go_roundw
    case rel => exact ⟨k + 1, _, _, v2, by omega, by go_num, hc', HN.out⟩
    case measure => simp [intOf]; omega
  ·obtain rfl : k = n := by omega
   have HA := Lib.hid HH.out.len
   have HB := Lib.hid HH'.out.len
   obtain ⟨A0, d0, rfl, hrd, hfr⟩ := own_slice HI.out.own
   have hc2 := HI.out.box.one
   have HR := hide hrd
   have HF := hide hfr
   clear hrd hfr
   go_wp2_with (go_at_call 99; refine (trimmed_any _ _ _ zs _ ⟨HR.out, HI.out.ok⟩).mono ?_; rintro e w2 ⟨rfl, rfl⟩)
   go_ret
   have e1 := HI.out.last hcy hle HA.out (by have := HB.out; omega)
   have e2 := (R16.mk HR.out HI.out.ok).take (Lb.trim zs).length (by have := Lb.trim_length_le zs; have := HI.out.len; omega)
   rw [← Lb.trim_prefix] at e2
   exact Out16.mk e2.rd e1 HF.out HI.out.below
end Go.Proofs.YtjbcalbbhomkjaaGreat
