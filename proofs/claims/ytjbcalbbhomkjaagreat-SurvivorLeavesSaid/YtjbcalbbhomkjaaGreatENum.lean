import Derived.Test.YtjbcalbbhomkjaaGreatEAdd2
import Derived.Test.YtjbcalbbhomkjaaGreatERegI
namespace Go.Proofs.YtjbcalbbhomkjaaGreat
open Go.RowKit
def noLimb : Value → Bool
 | .int .u16 _ => false
 | _ => true
theorem R16.ne_blk {w : World} {A : Option Addr} {n c g : Nat} {xs : List Nat} {t : TypeId} {cs : Array Value} (h : R16 w A n c xs) (hb : Blk w g t cs) (hc : cs.all noLimb = true) (hn : 0 < n) : ∀ ad, A = Option.some ad → ad.block ≠ g := by
 rintro ad rfl rfl
 obtain ⟨ad', e, hx⟩ := h.some hn
 cases e
 have h0 := hx 0 hn
 unfold Blk at hb
 unfold World.cell? at h0
 have e0 : (ad.add 0).block = ad.block := block_of_add ad 0
 rw [e0, hb] at h0
 simp only at h0
 have e2 : ad.add 0 = ad := by unfold Addr.add; simp
 rw [e2] at h0
 rw [if_neg (by intro h; rw [if_pos h] at h0; cases h0)] at h0
 have hmem := Array.mem_of_getElem? h0
 rw [Array.all_eq_true_iff_forall_mem] at hc
 have := hc _ hmem
 simp [noLimb] at this
theorem R16.set_blk {w : World} {A : Option Addr} {n c g : Nat} {xs : List Nat} {t : TypeId} {cs : Array Value} (h : R16 w A n c xs) (hb : Blk w g t cs) (hc : cs.all noLimb = true) (i : Nat) (v : Value) : R16 (w.setCell ⟨g, i, none⟩ v) A n c xs := by
 rcases Nat.eq_zero_or_pos n with h0 | h0
 ·subst h0
  have hx : xs = [] := List.eq_nil_of_length_eq_zero h.len
  subst hx
  exact ⟨⟨by simp, h.cap, h.max, fun hn => by omega⟩, Lb.ok_nil⟩
 ·exact h.far ⟨g, i, none⟩ v fun ad e => h.ne_blk hb hc h0 ad e
def NW (B : Nat) (w : World) (v : Value) (z : Int) : Prop :=
 ∃ A c, v = wv z A c ∧ R16 w A (Lb.limbs z.natAbs).length c (Lb.limbs z.natAbs) ∧ ∀ ad, A = some ad → B ≤ ad.block
theorem NW.below {B Bd : Nat} {w w' : World} {v : Value} {z : Int} (h : NW B w v z) (hb : Below Bd w w') (hB : w.heap.size ≤ Bd) : NW B w' v z := by
 obtain ⟨A, c, e, h1, h2⟩ := h
 exact ⟨A, c, e, h1.below hb hB, h2⟩
theorem NW.mono {B B' : Nat} {w : World} {v : Value} {z : Int} (h : NW B w v z) (hB : B' ≤ B) : NW B' w v z := by
 obtain ⟨A, c, e, h1, h2⟩ := h
 exact ⟨A, c, e, h1, fun ad e => Nat.le_trans hB (h2 ad e)⟩
theorem NW.set_ {B : Nat} {w : World} {v : Value} {z : Int} (h : NW B w v z) {g : Nat} {t : TypeId} {cs : Array Value} (hb : Blk w g t cs) (hc : cs.all noLimb = true) (i : Nat) (u : Value) : NW B (w.setCell ⟨g, i, none⟩ u) v z := by
 obtain ⟨A, c, e, h1, h2⟩ := h
 exact ⟨A, c, e, h1.set_blk hb hc i u, h2⟩
theorem NW.drew {B : Nat} {w : World} {v : Value} {z : Int} (h : NW B w v z) : NW B w.drew v z := h.below (Below.refl w.heap.size w).drew (Nat.le_refl _)
theorem NW.mk' {B : Nat} {w : World} {z : Int} {A : Option Addr} {c : Nat} (h : R16 w A (Lb.limbs z.natAbs).length c (Lb.limbs z.natAbs)) (h2 : ∀ ad, A = some ad → B ≤ ad.block) : NW B w (wv z A c) z := ⟨A, c, rfl, h, h2⟩
def Wide (z : Int) (k : Nat) : Prop := z.natAbs < 65536 ^ k
theorem Wide.mono {z : Int} {k l : Nat} (h : Wide z k) (hl : k ≤ l) : Wide z l := Nat.lt_of_lt_of_le h (Nat.pow_le_pow_right (by omega) hl)
theorem Wide.mul {x y : Int} {k l : Nat} (h : Wide x k) (h' : Wide y l) : Wide (x * y) (k + l) := by
 unfold Wide at *
 rw [Int.natAbs_mul, Nat.pow_add]
 exact Nat.mul_lt_mul'' h h'
theorem Wide.add {x y : Int} {k : Nat} (h : Wide x k) (h' : Wide y k) : Wide (x + y) (k + 1) := by
 unfold Wide at *
 rw [Nat.pow_succ]
 have := Int.natAbs_add_le x y
 omega
def RetW (w : World) (z : Int) (e : Ending) (w' : World) : Prop := ∃ v, e = .returned v ∧ NW w.heap.size w' v z ∧ Below w.heap.size w w'
def TupW (w w' : World) (e : Ending) (z : Int) : Prop :=
 ∃ A c, e = .returned (.tuple #[.agg #[.bool (decide (z < 0)), .slice A (Lb.limbs z.natAbs).length c], .int .i64 0]) ∧ R16 w' A (Lb.limbs z.natAbs).length c (Lb.limbs z.natAbs) ∧ (∀ ad, A = some ad → w.heap.size ≤ ad.block) ∧ Below w.heap.size w w'
end Go.Proofs.YtjbcalbbhomkjaaGreat
