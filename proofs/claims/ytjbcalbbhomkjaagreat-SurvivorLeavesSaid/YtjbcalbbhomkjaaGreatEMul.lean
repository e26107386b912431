import Derived.Test.YtjbcalbbhomkjaaGreatESub
namespace Go.Proofs.YtjbcalbbhomkjaaGreat
open Go.RowKit
namespace Lb
theorem mul_round {zs : List Nat} {j z c x y V : Nat} (hj : j < zs.length) (hz : zs[j]?.getD 0 = z) (h : val zs + 65536 ^ j * c = V) :
  val (zs.set j ((x * y + z + c) % 65536)) + 65536 ^ (j + 1) * ((x * y + z + c) / 65536) = V + 65536 ^ j * (x * y) := by
 have h1 := val_set (xs := zs) (k := j) (x := (x * y + z + c) % 65536) hj
 rw [hz] at h1
 have e : 65536 ^ j * ((x * y + z + c) % 65536) + 65536 ^ (j + 1) * ((x * y + z + c) / 65536) = 65536 ^ j * (x * y + z + c) := by
  rw [Nat.pow_succ, Nat.mul_assoc, ← Nat.mul_add, Nat.mod_add_div]
 rw [Nat.mul_add, Nat.mul_add] at e
 omega
end Lb
structure MulI (w wr : World) (g N : Nat) (zs : List Nat) : Prop where
 len : zs.length = N
 ok : Lb.Ok zs
 own : wr.ownsRow w.heap.size 51 1 (.slice (some ⟨g, 0, none⟩) N N) N (zs.map u16)
 below : Below w.heap.size w wr
 ge : w.heap.size ≤ g
theorem MulI.cell {w wr : World} {g N : Nat} {zs : List Nat} (h : MulI w wr g N zs) (j : Nat) (hj : j < N) : wr.cell? ⟨g, j, none⟩ = some (.int .u16 ((zs[j]?.getD 0 : Nat) : Int)) ∧ wr.frozen? ⟨g, j, none⟩ = false := by
 refine ⟨?_, h.own.frozenAt j⟩
 rw [h.own.cellAt j (by omega), List.getElem?_map, List.getElem?_eq_getElem (by have := h.len; omega)]; rfl
theorem MulI.set {w wr : World} {g N : Nat} {zs : List Nat} (h : MulI w wr g N zs) (j x : Nat) (hx : x < 65536) : MulI w (wr.setCell ⟨g, j, none⟩ (.int .u16 (x : Int))) g N (zs.set j x) := by
 refine ⟨by rw [List.length_set]; exact h.len, Lb.ok_set h.ok j x hx, ?_, h.below.setCell h.ge _, h.ge⟩
 have := h.own.stored j (.int .u16 (x : Int))
 rw [List.map_set]; exact this.1
structure MulO (w wr : World) (g n' N : Nat) (xs ys : List Nat) (k : Nat) (zs : List Nat) : Prop extends MulI w wr g N zs where
 sum : Lb.val zs = Lb.val (xs.take k) * Lb.val ys
 zero : ∀ j, k + n' ≤ j → zs[j]?.getD 0 = 0
structure MulN (w wr : World) (g n' N : Nat) (xs ys : List Nat) (k m c : Nat) (zs : List Nat) : Prop extends MulI w wr g N zs where
 sum : Lb.val zs + 65536 ^ (k + m) * c = Lb.val (xs.take k) * Lb.val ys + 65536 ^ k * (xs[k]?.getD 0 * Lb.val (ys.take m))
 zero : ∀ j, k + n' ≤ j → zs[j]?.getD 0 = 0
 carry : c < 65536
theorem MulN.next {w wr : World} {g n' N : Nat} {xs ys : List Nat} {k m c : Nat} {zs : List Nat} (h : MulN w wr g n' N xs ys k m c zs) (hm : m < n') (hN : k + n' ≤ N) (hx : xs[k]?.getD 0 < 65536) (hy : ys[m]?.getD 0 < 65536) :
  MulN w (wr.setCell ⟨g, k + m, none⟩ (.int .u16 (((xs[k]?.getD 0 * ys[m]?.getD 0 + zs[k + m]?.getD 0 + c) % 65536 : Nat) : Int))) g n' N xs ys k (m + 1) ((xs[k]?.getD 0 * ys[m]?.getD 0 + zs[k + m]?.getD 0 + c) / 65536)
   (zs.set (k + m) ((xs[k]?.getD 0 * ys[m]?.getD 0 + zs[k + m]?.getD 0 + c) % 65536)) := by
 have hz := Lb.getD_lt h.ok (k + m)
 have hc := h.carry
 refine ⟨h.toMulI.set _ _ (Nat.mod_lt _ (by omega)), ?_, fun j hj => ?_, ?_⟩
 ·have := Lb.mul_round (x := xs[k]?.getD 0) (y := ys[m]?.getD 0) (by have := h.len; omega) rfl h.sum
  rw [← Nat.add_assoc, this, Lb.val_take_succ]
  have e : 65536 ^ (k + m) * (xs[k]?.getD 0 * ys[m]?.getD 0) = 65536 ^ k * (xs[k]?.getD 0 * (65536 ^ m * ys[m]?.getD 0)) := by
   rw [Nat.pow_add, Nat.mul_assoc]; congr 1; exact Nat.mul_left_comm _ _ _
  rw [e, Nat.mul_add, Nat.mul_add, Nat.add_assoc]
 ·rw [List.getElem?_set_ne (by omega)]; exact h.zero j hj
 ·have : xs[k]?.getD 0 * ys[m]?.getD 0 ≤ 65535 * 65535 := Nat.mul_le_mul (by omega) (by omega)
  omega
theorem MulN.next' {w wr : World} {g n' N : Nat} {xs ys : List Nat} {k m c : Nat} {zs : List Nat} {X : Int} (h : MulN w wr g n' N xs ys k m c zs) (hm : m < n') (hN : k + n' ≤ N) (hx : xs[k]?.getD 0 < 65536) (hy : ys[m]?.getD 0 < 65536)
  (hX : X = ((xs[k]?.getD 0 * ys[m]?.getD 0 + zs[k + m]?.getD 0 + c : Nat) : Int)) :
  ∃ (c' : Nat) (zs' : List Nat), Value.int .u32 (X / 65536) = .int .u32 (c' : Int) ∧ MulN w (wr.setCell ⟨g, k + m, none⟩ (.int .u16 (IntKind.u16.wrap X))) g n' N xs ys k (m + 1) c' zs' := by
 subst hX
 have h2 := h.next hm hN hx hy
 generalize xs[k]?.getD 0 * ys[m]?.getD 0 + zs[k + m]?.getD 0 + c = T at h2
 have e : IntKind.u16.wrap (T : Int) = ((T % 65536 : Nat) : Int) := by show (T : Int) % 65536 = _; omega
 have e2 : (T : Int) / 65536 = ((T / 65536 : Nat) : Int) := by omega
 rw [e, e2]
 exact ⟨_, _, rfl, h2⟩
theorem MulN.last {w wr : World} {g n' N : Nat} {xs ys : List Nat} {k c : Nat} {zs : List Nat} (h : MulN w wr g n' N xs ys k n' c zs) (hN : k + n' < N) (hys : ys.length = n') :
  MulO w (wr.setCell ⟨g, k + n', none⟩ (.int .u16 (c : Int))) g n' N xs ys (k + 1) (zs.set (k + n') c) := by
 refine ⟨h.toMulI.set _ _ h.carry, ?_, fun j hj => ?_⟩
 ·have h1 := Lb.val_set (xs := zs) (k := k + n') (x := c) (by have := h.len; omega)
  rw [h.zero _ (Nat.le_refl _)] at h1
  have h2 := h.sum
  rw [List.take_of_length_le (l := ys) (by omega)] at h2
  rw [Lb.val_take_succ, Nat.add_mul, Nat.mul_assoc]
  omega
 ·rw [List.getElem?_set_ne (by omega)]; exact h.zero j (by omega)
theorem made_u16 (N : Nat) : (madeCells #[Value.int .u16 0] N).toList = (List.replicate N 0).map u16 := by
 apply List.ext_getElem
 ·simp [madeCells]
 ·intro i h1 h2
  simp [madeCells, u16, Nat.mod_one]
theorem mul_le (x y : Nat) (hx : x < 65536) (hy : y < 65536) : 0 ≤ (x : Int) * (y : Int) ∧ (x : Int) * (y : Int) ≤ 4294836225 := by
 have : x * y ≤ 65535 * 65535 := Nat.mul_le_mul (by omega) (by omega)
 have e : (x : Int) * (y : Int) = ((x * y : Nat) : Int) := by simp
 rw [e]; omega
set_option maxRecDepth 100000 in
set_option maxHeartbeats 1000000 in
theorem mul_any (A A' : Option Addr) (n n' c c' : Nat) (a b : Nat) (w : World) (h : R16 w A n c (Lb.limbs a)) (h' : R16 w A' n' c' (Lb.limbs b)) (hn : n ≤ 100000) (hn' : n' ≤ 100000) :
  Calls Tryz.prog 132 #[.slice A n c, .slice A' n' c'] w fun e w' => Out16 w w' e (a * b) := by
 have hcap := h.cap
 have hmax := h.max
 have hcap' := h'.cap
 have hmax' := h'.max
 obtain ⟨i0, hi, hz0, hz1, hz2⟩ := info_parts u16_info
 have HH := hide h
 have HH' := hide h'
 clear h h'
 go_enter Tryz.func132, Tryz.ntmps132
 go_wp2_with (at_make; refine wpList_make_full _ rfl _ _ 33 rfl w.heap.size 51 i0 (.int .u16 0) 1 Tryz.underlying33 hi hz0 hz1 _ _ _ _ (n + n') rfl rfl (by simp) (by simp) ?c1 ?c2 ?c3 ?_)
 case c1 => rw [hz2]; omega
 case c2 => simp only [maxLen]; omega
 case c3 => exact Nat.le_refl _
 intro w1 hown hgr
 have HO : Hid (MulO w w1 w.heap.size n' (n + n') (Lb.limbs a) (Lb.limbs b) 0 (List.replicate (n + n') 0)) := by
  refine ⟨⟨by simp, Lb.ok_replicate _, ?_, (Below.refl _ _).grown hgr (Nat.le_refl _) (fun k hk => by cases hk), Nat.le_refl _⟩, by simp [Lb.val_replicate], fun j _ => ?_⟩
  ·rw [made_u16] at hown; exact hown
  ·by_cases hj : j < n + n'
   ·simp [hj]
   ·rw [List.getElem?_eq_none (by simp; omega)]; rfl
 clear hown hgr
 go_wp2
 go_loopw [20] (fun i wr => ∃ (k : Nat) (zs : List Nat), k ≤ n ∧ i = .int .i64 (k : Int) ∧ MulO w wr w.heap.size n' (n + n') (Lb.limbs a) (Lb.limbs b) k zs) (fun i _ => n - (intOf i).toNat)
 case atStart => exact ⟨0, _, by omega, rfl, HO.out⟩
 case round =>
  obtain ⟨k, zs, hk, rfl, hI⟩ := hrel
  have HI := hide hI
  clear hI HO
  by_cases hlt : k < n
  ·obtain ⟨ad, rfl, hx⟩ := HH.out.some (by omega)
   have hxk := (HI.out.below.cell (block_lt_of_cell (hx k hlt))).trans (hx k hlt)
   have hxb := Lb.getD_lt HH.out.ok k
   clear hx
   obtain ⟨wo, rfl⟩ : ∃ wo : World, wo = wr := ⟨_, rfl⟩
   go_wp2
   go_loopw [27, 8] (fun i cy wr => ∃ (m cc : Nat) (zs : List Nat), m ≤ n' ∧ i = .int .i64 (m : Int) ∧ cy = .int .u32 (cc : Int) ∧ MulN w wr w.heap.size n' (n + n') (Lb.limbs a) (Lb.limbs b) k m cc zs) (fun i _ _ => n' - (intOf i).toNat)
   case atStart => exact ⟨0, 0, zs, by omega, rfl, rfl, HI.out.toMulI, by simp [HI.out.sum], HI.out.zero, by omega⟩
   case round =>
    obtain ⟨m, cc, zs', hm, rfl, rfl, hN⟩ := hrel
    have hcb := hN.carry
    have HN := hide hN
    clear hN
    by_cases hlt' : m < n'
    ·obtain ⟨ad', rfl, hy⟩ := HH'.out.some (by omega)
     have hym := (HN.out.below.cell (block_lt_of_cell (hy m hlt'))).trans (hy m hlt')
     have hyb := Lb.getD_lt HH'.out.ok m
     clear hy hxk
     obtain ⟨hz, hf⟩ := HN.out.toMulI.cell (k + m) (by omega)
     have hzb := Lb.getD_lt HN.out.ok (k + m)
     obtain ⟨hp0, hp1⟩ := mul_le _ _ hxb hyb
     go_wp2
     obtain ⟨c2, z2, e1, hN2⟩ := HN.out.next' hlt' (by omega) hxb hyb (X := ((((Lb.limbs a)[k]?.getD 0 : Nat) : Int) * (((Lb.limbs b)[m]?.getD 0 : Nat) : Int) + ((zs'[k + m]?.getD 0 : Nat) : Int) + (cc : Int))) (by simp)
     go_roundw
     case rel => exact ⟨m + 1, c2, z2, by omega, by go_num, e1, hN2⟩
     case measure => simp [intOf]; omega
    ·obtain rfl : m = n' := by omega
     clear hxk
     obtain ⟨hz, hf⟩ := HN.out.toMulI.cell (k + m) (by omega)
     go_wp2
     go_roundw
     case rel => exact ⟨k + 1, _, by omega, by go_num, HN.out.last (by omega) HH'.out.len⟩
     case measure => simp [intOf]; omega
  ·obtain rfl : k = n := by omega
   have HR := hide HI.out.own
   go_wp2_with (go_at_call 99; refine (trimmed_any _ _ _ zs _ ⟨Rd.of_lit HR.out, HI.out.ok⟩).mono ?_; rintro e w2 ⟨rfl, rfl⟩)
   go_ret
   have e2 := (R16.mk (Rd.of_lit HR.out) HI.out.ok).take (Lb.trim zs).length (by have := Lb.trim_length_le zs; have := HI.out.len; omega)
   rw [← Lb.trim_prefix] at e2
   refine Out16.mk e2.rd ?_ (fun ad e => by cases e; exact HI.out.ge) HI.out.below
   rw [Lb.trim_limbs zs HI.out.ok, HI.out.sum, List.take_of_length_le (by have := HH.out.len; omega), Lb.val_limbs, Lb.val_limbs]
end Go.Proofs.YtjbcalbbhomkjaaGreat
