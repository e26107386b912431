import Derived.Laws.BitsAllLaws
import Derived.Laws.BitsLemmas
import Derived.WalkKit
namespace Go.Proofs.YtjbcalbbhomkjaaGreat
open Go.RowKit
theorem ofInt32 (a : Nat) (ha : a < 4294967296) : (BitVec.ofInt 32 (a : Int)).toNat = a := by
 rw [BitVec.ofInt_natCast, BitVec.toNat_ofNat]; exact Nat.mod_eq_of_lt (by omega)
theorem ofInt64 (a : Nat) (ha : a < 18446744073709551616) : (BitVec.ofInt 64 (a : Int)).toNat = a := by
 rw [BitVec.ofInt_natCast, BitVec.toNat_ofNat]; exact Nat.mod_eq_of_lt (by omega)
theorem or_eq_add (r x : Nat) (hx : x < 65536) : r * 65536 ||| x = r * 65536 + x := by
 have := Nat.shiftLeft_add_eq_or_of_lt (i := 16) (b := x) (by omega) r
 rw [Nat.shiftLeft_eq] at this
 exact this.symm
theorem or32 (r x : Nat) (hr : r < 65536) (hx : x < 65536) : bits BinOp.or IntKind.u32 ((r : Int) * 65536) (x : Int) = ((r * 65536 + x : Nat) : Int) := by
 have e : (r : Int) * 65536 = ((r * 65536 : Nat) : Int) := by simp
 rw [e]
 show IntKind.u32.wrap ((BitVec.ofInt 32 ((r * 65536 : Nat) : Int) ||| BitVec.ofInt 32 (x : Int)).toNat : Int) = _
 rw [BitVec.toNat_or, ofInt32 _ (by omega), ofInt32 _ (by omega), or_eq_add r x hx]
 show ((r * 65536 + x : Nat) : Int) % 4294967296 = _
 omega
theorem or64 (r x : Nat) (hr : r < 281474976710656) (hx : x < 65536) : bits BinOp.or IntKind.u64 ((r : Int) * 65536) (x : Int) = ((r * 65536 + x : Nat) : Int) := by
 have e : (r : Int) * 65536 = ((r * 65536 : Nat) : Int) := by simp
 rw [e]
 show IntKind.u64.wrap ((BitVec.ofInt 64 ((r * 65536 : Nat) : Int) ||| BitVec.ofInt 64 (x : Int)).toNat : Int) = _
 rw [BitVec.toNat_or, ofInt64 _ (by omega), ofInt64 _ (by omega), or_eq_add r x hx]
 show ((r * 65536 + x : Nat) : Int) % 18446744073709551616 = _
 omega
theorem ofInt16 (a : Nat) (ha : a < 65536) : (BitVec.ofInt 16 (a : Int)).toNat = a := by
 rw [BitVec.ofInt_natCast, BitVec.toNat_ofNat]; exact Nat.mod_eq_of_lt (by omega)
theorem or16 (z q s : Nat) (hz : z < 2 ^ s) (hq : q * 2 ^ s + z < 65536) : bits BinOp.or IntKind.u16 (z : Int) ((q * 2 ^ s : Nat) : Int) = ((q * 2 ^ s + z : Nat) : Int) := by
 show IntKind.u16.wrap ((BitVec.ofInt 16 (z : Int) ||| BitVec.ofInt 16 ((q * 2 ^ s : Nat) : Int)).toNat : Int) = _
 rw [BitVec.toNat_or, ofInt16 _ (by omega), ofInt16 _ (by omega), Nat.or_comm]
 have := Nat.shiftLeft_add_eq_or_of_lt (i := s) (b := z) hz q
 rw [Nat.shiftLeft_eq] at this
 rw [← this]
 show ((q * 2 ^ s + z : Nat) : Int) % 65536 = _
 omega
theorem pow_le15 {s : Nat} (hs : s ≤ 15) : 1 ≤ 2 ^ s ∧ 2 ^ s ≤ 32768 := ⟨Nat.two_pow_pos s, by have := Nat.pow_le_pow_right (n := 2) (by omega) hs; simpa using this⟩
theorem low_shift {x s : Nat} (hs : s ≤ 15) : x * 2 ^ s % 65536 = x % 2 ^ (16 - s) * 2 ^ s ∧ x * 2 ^ s % 65536 + 2 ^ s ≤ 65536 := by
 have e : (65536 : Nat) = 2 ^ (16 - s) * 2 ^ s := by rw [← Nat.pow_add, show 16 - s + s = 16 from by omega]
 have e1 : x * 2 ^ s % 65536 = x % 2 ^ (16 - s) * 2 ^ s := by rw [e, Nat.mul_mod_mul_right]
 refine ⟨e1, ?_⟩
 rw [e1]
 have h1 : x % 2 ^ (16 - s) + 1 ≤ 2 ^ (16 - s) := Nat.mod_lt _ (Nat.two_pow_pos _)
 have h2 := Nat.mul_le_mul_right (2 ^ s) h1
 rw [← e, Nat.add_mul, Nat.one_mul] at h2
 exact h2
end Go.Proofs.YtjbcalbbhomkjaaGreat
