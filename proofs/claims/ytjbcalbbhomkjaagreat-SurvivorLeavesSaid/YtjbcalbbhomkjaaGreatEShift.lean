import Derived.Test.YtjbcalbbhomkjaaGreatEMul
import Derived.Test.YtjbcalbbhomkjaaGreatEBits
namespace Go.Proofs.YtjbcalbbhomkjaaGreat
open Go.RowKit
structure SfI (w wr : World) (g N s : Nat) (xs : List Nat) (k : Nat) (zs : List Nat) : Prop extends MulI w wr g N zs where
 sum : Lb.val zs = Lb.val (xs.take k) * 2 ^ s
 zero : ∀ j, k < j → zs[j]?.getD 0 = 0
 top : zs[k]?.getD 0 < 2 ^ s
theorem SfI.next {w wr : World} {g N s : Nat} {xs : List Nat} {k : Nat} {zs : List Nat} (h : SfI w wr g N s xs k zs) (hs : s ≤ 15) (hk : k + 1 < N) (hx : xs[k]?.getD 0 < 65536) :
  ∃ zs', SfI w ((wr.setCell ⟨g, k, none⟩ (.int .u16 (bits BinOp.or IntKind.u16 ((zs[k]?.getD 0 : Nat) : Int) (IntKind.u16.wrap (((xs[k]?.getD 0 : Nat) : Int) * 2 ^ s % 4294967296))))).setCell ⟨g, k + 1, none⟩ (.int .u16 (((xs[k]?.getD 0 : Nat) : Int) * 2 ^ s % 4294967296 / 65536))) g N s xs (k + 1) zs' := by
 obtain ⟨p0, p1⟩ := pow_le15 hs
 obtain ⟨l1, l2⟩ := low_shift (x := xs[k]?.getD 0) hs
 have ht := h.top
 have hlen := h.len
 have hval := h.sum
 have hz1 := h.zero (k + 1) (by omega)
 generalize hz : zs[k]?.getD 0 = z at *
 generalize hxx : xs[k]?.getD 0 = x at *
 have hp : x * 2 ^ s ≤ 65535 * 32768 := Nat.mul_le_mul (by omega) p1
 have hp2 : x * 2 ^ s < 65536 * 2 ^ s := Nat.mul_lt_mul_of_pos_right hx (by omega)
 have e0 : (x : Int) * 2 ^ s % 4294967296 = ((x * 2 ^ s : Nat) : Int) := by
  have : (x : Int) * 2 ^ s = ((x * 2 ^ s : Nat) : Int) := by simp
  rw [this]; generalize x * 2 ^ s = P at *; omega
 have e1 : IntKind.u16.wrap ((x * 2 ^ s : Nat) : Int) = ((x * 2 ^ s % 65536 : Nat) : Int) := by
  show ((x * 2 ^ s : Nat) : Int) % 65536 = _
  generalize x * 2 ^ s = P at *; omega
 have e2 : bits BinOp.or IntKind.u16 (z : Int) ((x * 2 ^ s % 65536 : Nat) : Int) = ((x * 2 ^ s % 65536 + z : Nat) : Int) := by
  rw [l1]; exact or16 z _ s ht (by rw [← l1]; omega)
 have e3 : ((x * 2 ^ s : Nat) : Int) / 65536 = ((x * 2 ^ s / 65536 : Nat) : Int) := by generalize x * 2 ^ s = P at *; omega
 have htop : x * 2 ^ s / 65536 < 2 ^ s := (Nat.div_lt_iff_lt_mul (by omega)).2 (by rw [Nat.mul_comm (2 ^ s) 65536]; exact hp2)
 rw [e0, e1, e2, e3]
 have h1 := h.toMulI.set k (x * 2 ^ s % 65536 + z) (by omega)
 have h2 := h1.set (k + 1) (x * 2 ^ s / 65536) (by omega)
 refine ⟨_, h2, ?_, fun j hj => ?_, ?_⟩
 ·have v1 := Lb.val_set (xs := zs) (k := k) (x := x * 2 ^ s % 65536 + z) (by omega)
  have v2 := Lb.val_set (xs := zs.set k (x * 2 ^ s % 65536 + z)) (k := k + 1) (x := x * 2 ^ s / 65536) (by simp; omega)
  rw [List.getElem?_set_ne (by omega), hz1, Nat.mul_zero, Nat.add_zero] at v2
  rw [hz] at v1
  have e : 65536 ^ k * (x * 2 ^ s % 65536) + 65536 ^ (k + 1) * (x * 2 ^ s / 65536) = 65536 ^ k * (x * 2 ^ s) := by
   rw [Nat.pow_succ, Nat.mul_assoc, ← Nat.mul_add, Nat.mod_add_div]
  rw [Nat.mul_add] at v1
  rw [v2, Lb.val_take_succ, hxx, Nat.add_mul, Nat.mul_assoc, ← hval]
  omega
 ·rw [List.getElem?_set_ne (by omega), List.getElem?_set_ne (by omega)]; exact h.zero j (by omega)
 ·rw [List.getElem?_set_self (by simp; omega)]; exact htop
set_option maxRecDepth 100000 in
set_option maxHeartbeats 1000000 in
theorem shifted_any (A : Option Addr) (n c s : Nat) (xs : List Nat) (w : World) (h : R16 w A n c xs) (hn : n ≤ 100000) (hs : s ≤ 15) :
  Calls Tryz.prog 162 #[.slice A n c, .int .i64 (s : Int)] w fun e w' => ∃ zs, e = .returned (.slice (some ⟨w.heap.size, 0, none⟩) (n + 1) (n + 1)) ∧ MulI w w' w.heap.size (n + 1) zs ∧ Lb.val zs = Lb.val xs * 2 ^ s := by
 have hcap := h.cap
 have hmax := h.max
 obtain ⟨i0, hi, hz0, hz1, hz2⟩ := info_parts u16_info
 have HH := hide h
 clear h
 go_enter Tryz.func162, Tryz.ntmps162
 go_wp2_with (at_make; refine wpList_make_full _ rfl _ _ 33 rfl w.heap.size 51 i0 (.int .u16 0) 1 Tryz.underlying33 hi hz0 hz1 _ _ _ _ (n + 1) rfl rfl (by simp) (by simp) ?c1 ?c2 ?c3 ?_)
 case c1 => rw [hz2]; omega
 case c2 => simp only [maxLen]; omega
 case c3 => exact Nat.le_refl _
 intro w1 hown hgr
 have HO : Hid (SfI w w1 w.heap.size (n + 1) s xs 0 (List.replicate (n + 1) 0)) := by
  refine ⟨⟨by simp, Lb.ok_replicate _, ?_, (Below.refl _ _).grown hgr (Nat.le_refl _) (fun k hk => by cases hk), Nat.le_refl _⟩, by simp [Lb.val_replicate], fun j hj => ?_, ?_⟩
  ·rw [made_u16] at hown; exact hown
  ·rw [List.getElem?_replicate]; split <;> rfl
  ·rw [List.getElem?_replicate, if_pos (by omega)]; exact Nat.two_pow_pos s
 clear hown hgr
 go_wp2
 go_loopw [15] (fun i wr => ∃ (k : Nat) (zs : List Nat), k ≤ n ∧ i = .int .i64 (k : Int) ∧ SfI w wr w.heap.size (n + 1) s xs k zs) (fun i _ => n - (intOf i).toNat)
 case atStart => exact ⟨0, _, by omega, rfl, HO.out⟩
 case round =>
  obtain ⟨k, zs, hk, rfl, hI⟩ := hrel
  have HI := hide hI
  clear hI HO
  by_cases hlt : k < n
  ·obtain ⟨ad, rfl, hx⟩ := HH.out.some (by omega)
   have hxk := (HI.out.below.cell (block_lt_of_cell (hx k hlt))).trans (hx k hlt)
   have hxb := Lb.getD_lt HH.out.ok k
   clear hx
   obtain ⟨hc1, hf1⟩ := HI.out.toMulI.cell k (by omega)
   obtain ⟨hc2, hf2⟩ := HI.out.toMulI.cell (k + 1) (by omega)
   go_wp2
   obtain ⟨zs', hI'⟩ := HI.out.next hs (by omega) hxb
   go_roundw
   case rel => exact ⟨k + 1, zs', by omega, by go_num, hI'⟩
   case measure => simp [intOf]; omega
  ·obtain rfl : k = n := by omega
   go_wp2
   go_ret
   refine ⟨zs, rfl, HI.out.toMulI, ?_⟩
   rw [HI.out.sum, List.take_of_length_le (by have := HH.out.len; omega)]
end Go.Proofs.YtjbcalbbhomkjaaGreat
